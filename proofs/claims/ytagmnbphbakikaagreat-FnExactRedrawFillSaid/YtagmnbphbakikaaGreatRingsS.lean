/-
  The polygons of a path: the reference's walk.
-/
import Derived.Test.YtagmnbphbakikaaGreatMg7
import Derived.Test.YtagmnbphbakikaaGreatMg5
import Derived.Test.YtagmnbphbakikaaGreatMg8
namespace Go.Proofs.YtagmnbphbakikaaGreat
open Go Go.RowKit Reg
attribute [local go_sem] calmAt calmUpon
theorem c_sflatten3 (A : Option Addr) (cap : Nat) (c : List Pt) (w : World) (h : Pts w A c) (hv : VpAll c) (h1 : 1 ≤ c.length) (hl : c.length ≤ 1000) :
    Calls Tryz.prog 101 #[.slice A c.length cap, .int .i64 8, .int .i64 3] w fun e w' => ∃ A' cap', e = .returned (.slice A' (flatL 8 3 c).length cap') ∧ Has w' w.heap.size 45 2 (.slice A' (flatL 8 3 c).length cap') (flatL 8 3 c).length ((flatL 8 3 c).flatMap ptC) ∧ Below w.heap.size w w' :=
  c_sflatten 8 3 A cap c w h hv h1 hl (by omega)
set_option maxRecDepth 100000 in
set_option maxHeartbeats 8000000 in
theorem c_srings (A : Option Addr) (cap : Nat) (vs : List Vb) (w : World) (h : Vbs w A vs) (hv : pathOk vs = true) :
    Calls Tryz.prog 67 #[.slice A vs.length cap] w (RetRg w (ringsL vs)) := by
  have H := Lib.hid h
  obtain ⟨hto, hn30⟩ := pathOk_to hv
  have Hto := Lib.hid hto
  have E := Lib.hid (Below.refl w.heap.size w)
  obtain ⟨RS, hRS⟩ : ∃ R, ringsL vs = R := ⟨_, rfl⟩
  rw [hRS]
  have HRS := Lib.hid hRS
  clear h hv hto hRS
  go_enter Tryz.func67, Tryz.ntmps67
  go_wp2_with fail
  first | refine gen_calls ?_ | refine gen_code ?_ | refine gen_list ?_
  intro w1 hW
  obtain ⟨hb, hR1, hR2⟩ := new2 hW
  clear hW
  replace E := Lib.hid (Ext.trans E.out hb)
  clear hb
  have R1 := Lib.hid hR1
  have lR1 := R1.out.lt
  clear hR1
  have R2 := Lib.hid hR2
  have lR2 := R2.out.lt
  clear hR2
  have O0 : Hid (OR w1 w.heap.size (.slice (some ⟨w.heap.size, 0, none⟩) 0 0) [] []) := Lib.hid ⟨rfl, own_of_row (n := 0) R1.out (Nat.le_refl _) rfl (by decide), fun i hi => by simp at hi, fun i j hi => by simp at hi⟩
  have N0 := Lib.hid (own_of_row (n := 0) (B := w.heap.size + 1) (sz := 2) R2.out (Nat.le_refl _) rfl (by decide))
  go_loopw [3, 4, 5, 6] (fun v3 v4 i _ wr => ∃ (k Bn : Nat) (A1 : Option Addr) (cap1 : Nat) (out : List Rg) (ss : List Value) (A2 : Option Addr) (cap2 : Nat) (now : Rg),
    k ≤ vs.length ∧ i = .int .i64 k ∧ v3 = .slice A1 out.length cap1 ∧ v4 = .slice A2 now.length cap2 ∧ (out, now) = ringsSt vs k ∧ OR wr w.heap.size (.slice A1 out.length cap1) out ss ∧ Has wr Bn 45 2 (.slice A2 now.length cap2) now.length (now.flatMap ptC) ∧
    w.heap.size ≤ Bn ∧ Bn ≤ wr.heap.size ∧ (∀ (i : Nat) (hi : i < ss.length) g, ss[i].ownBlock = some g → g < Bn) ∧ Below w.heap.size w wr) (fun _ _ i _ _ => vs.length - (intOf i).toNat)
  case atStart => exact ⟨0, w.heap.size + 1, _, 0, [], [], _, 0, [], Nat.zero_le _, rfl, rfl, rfl, rfl, O0.out, N0.out, by omega, by omega, fun i hi => by simp at hi, E.out⟩
  case round =>
    obtain ⟨k, Bn, A1, cap1, out, ss, A2, cap2, now, hk, rfl, rfl, rfl, hst, ho, hn, hB1, hB2, hlt, hbw⟩ := hrel
    clear O0 N0 R1 R2 E lR1 lR2
    have Hst := Lib.hid hst
    have hok := ringsSt_ok (k := k) (fun i hi => Hto.out i (by omega)) hk
    rw [← hst] at hok
    obtain ⟨k1, k2, k3, k4, k5⟩ := hok
    dsimp only at k1 k2 k3 k4 k5
    have K1 := Lib.hid k1
    have K4 := Lib.hid k4
    have O := Lib.hid ho
    have Nw := Lib.hid hn
    have L := Lib.hid hlt
    have E := Lib.hid hbw
    have hzw : w.heap.size ≤ wr.heap.size := hbw.size
    clear hst k1 k2 k4 ho hn hlt hbw
    by_cases hkl : k < vs.length
    · obtain ⟨b, off, hA, _, hc⟩ := H.out.vbs (by omega)
      subst hA
      obtain ⟨Av, capv, cx, cy, hp⟩ := hc k hkl
      obtain ⟨f1, f2, f3, f4⟩ := vbOk_facts (Hto.out k hkl) hkl
      have Hm := Lib.hid (ringsSt_move hkl)
      have Hc := Lib.hid (ringsSt_close hkl)
      have Hl := Lib.hid (ringsSt_line hkl)
      simp only [← Hst.out] at Hm Hc Hl
      have Cx := Lib.hid cx
      have Cy := Lib.hid cy
      have Hp := Lib.hid hp
      have F3 := Lib.hid (psB_all f3)
      clear hc cx cy hp f3
      generalize vs[k] = vk at *
      obtain ⟨q, ps⟩ := vk
      dsimp only at f1 f2 f4 Hm Hc Hl Cx Cy Hp F3
      have F4 := Lib.hid f4
      clear f4
      have hcase : q = 0 ∨ (q = 1 ∨ q = 2 ∨ q = 3) ∨ q = 4 := by omega
      rcases hcase with rfl | hq | rfl
      · have hpl : ps.length = 1 := f2
        have hpl0 : 0 < ps.length := by omega
        have Hm2 := Lib.hid (Hm.out rfl hpl0)
        obtain ⟨b2, off2, hA, hb2, hc⟩ := Hp.out.pts hpl0
        subst hA
        obtain ⟨ax, ay⟩ := hc 0 hpl0
        simp only [Nat.zero_mul, Nat.add_zero] at ax ay
        clear hc Hm Hc Hl hpl f2 f1
        generalize ps[0] = p at *
        have i0 : (0 : Int) < (ps.length : Int) := by omega
        have Ax := Lib.hid ax
        have Ay := Lib.hid ay
        clear ax ay
        by_cases hnl : 0 < now.length
        · have Hf : Hid (ringsSt vs (k + 1) = (out ++ [now], [p])) := Lib.hid (by rw [Hm2.out, if_pos hnl])
          have hne : ¬ now = [] := by intro hh; subst hh; simp at hnl
          have cCx := Cls.cell E.out Cx.out
          have cCy := Cls.cell E.out Cy.out
          have cAx := Cls.cell E.out Ax.out
          have cAy := Cls.cell E.out Ay.out
          go_wp2_with (at_builtin; refine wpList_app (base := w.heap.size) ei_rg rfl (.tmp 25) (.tmp 27) rfl rfl (own_ext O.out.out (ext_alloc _ _)) rfl (src_new wr _ [_] (m := 1) rfl (by intro u hu; simp at hu; subst hu; rfl)) (by omega) (by simp; omega) ?_; intro ve we hown hg hat; refine stop_in ?_)
          refine stop_out ?_
          clear cCx cCy cAx cAy
          obtain ⟨A3, cap3, hve⟩ := own_form hown
          have O3 : Hid (OR we w.heap.size ve (out ++ [now]) (ss ++ [.slice A2 now.length cap2])) := Lib.hid ((O.out.ext (ext_alloc _ _)).push TP_ne_TR ((own_ext Nw.out (ext_alloc _ _)).rebase hB1) L.out (fun g hg => (Nw.out.lt g hg).1) hown hg)
          have L3 : Hid (∀ (i : Nat) (hi : i < (ss ++ [Value.slice A2 now.length cap2]).length) g, (ss ++ [Value.slice A2 now.length cap2])[i].ownBlock = some g → g < we.heap.size) := Lib.hid (fun i hi g hg => (O3.out.old i hi g hg).2)
          replace E := Lib.hid (own_below (Ext.trans E.out (ext_alloc _ _)) (own_ext O.out.out (ext_alloc _ _)) hg (by simp; omega))
          have hze : w.heap.size ≤ we.heap.size := E.out.size
          have hve' : ve = .slice A3 (out ++ [now]).length cap3 := by rw [hve, List.length_append]; rfl
          clear hown hg hat hve
          subst hve'
          have cCx := Cls.cell E.out Cx.out
          have cCy := Cls.cell E.out Cy.out
          have cAx := Cls.cell E.out Ax.out
          have cAy := Cls.cell E.out Ay.out
          go_wp2
          go_roundw
          case rel => exact ⟨k + 1, we.heap.size, A3, cap3, out ++ [now], _, _, 1, [p], by omega, by go_num, rfl, rfl, Hf.out.symm, O3.out.ext (ext_alloc _ _), own_of_row (n := 1) (Row.new we 45 [.int .i64 p.1, .int .i64 p.2]) (Nat.le_refl _) rfl (by decide), hze, by simp, L3.out, Ext.trans E.out (ext_alloc _ _)⟩
          case measure => simp [intOf]; omega
        · have Hf : Hid (ringsSt vs (k + 1) = (out, [p])) := Lib.hid (by rw [Hm2.out, if_neg hnl])
          have hnI : ¬ (0 : Int) < (now.length : Int) := by omega
          have cCx := Cls.cell E.out Cx.out
          have cCy := Cls.cell E.out Cy.out
          have cAx := Cls.cell E.out Ax.out
          have cAy := Cls.cell E.out Ay.out
          go_wp2
          go_roundw
          case rel => exact ⟨k + 1, wr.heap.size, A1, cap1, out, ss, _, 1, [p], by omega, by go_num, rfl, rfl, Hf.out.symm, O.out.ext (ext_alloc _ _), own_of_row (n := 1) (Row.new wr 45 [.int .i64 p.1, .int .i64 p.2]) (Nat.le_refl _) rfl (by decide), hzw, by simp, fun i hi g hg => (O.out.old i hi g hg).2, Ext.trans E.out (ext_alloc _ _)⟩
          case measure => simp [intOf]; omega
      · have hk0 : 0 < k := by
          rcases Nat.eq_zero_or_pos k with h | h
          · have := F4.out h; omega
          · exact h
        have hnl : 0 < now.length := K4.out hk0
        have hpl : ps.length ≤ 3 := by rw [f2]; exact manyOf_le q
        have Hl2 := Lib.hid (Hl.out (by omega) (by omega))
        obtain ⟨M, hM⟩ : ∃ M, M = now.length - 1 := ⟨_, rfl⟩
        have hMl : M < now.length := by omega
        have hM1 : M + 1 = now.length := by omega
        have hld := lastD_at hM hMl
        rw [hld] at Hl2
        obtain ⟨g, hA, hg1, hg2⟩ := own_at Nw.out hnl
        subst hA
        have hl2 := Nw.out.1
        have ax := Nw.out.cellAt (M * 2) (by omega)
        have ay := Nw.out.cellAt (M * 2 + 1) (by omega)
        have fx := flat_get ptC_len now [] M hMl 0 (by omega)
        have fy := flat_get ptC_len now [] M hMl 1 (by omega)
        rw [List.append_nil] at fx fy
        have ax2 : wr.cell? ⟨g, M * 2, none⟩ = some (.int .i64 now[M].1) := by rw [ax]; exact fx
        have ay2 : wr.cell? ⟨g, M * 2 + 1, none⟩ = some (.int .i64 now[M].2) := by rw [ay]; exact fy
        have hcv : VpAll (now[M] :: ps) := fun p hp => by
          rcases List.mem_cons.1 hp with rfl | hp
          · exact K1.out _ (List.getElem_mem _)
          · exact F3.out p hp
        have Hcv := Lib.hid hcv
        have eM : ((now.length : Nat) : Int) - 1 = (M : Int) := by omega
        have eMI : (M : Int) < (now.length : Int) := by omega
        have i1 : (1 : Int) ≤ (now.length : Int) := by omega
        have EM := Lib.hid eM
        clear hM hld hl2 ax ay fx fy hcv f2 f1 eM Hm Hc Hl
        generalize now[M] = p at *
        have Ax := Lib.hid ax2
        have Ay := Lib.hid ay2
        clear ax2 ay2
        have hkI : (k : Int) < (vs.length : Int) := by omega
        have hwm : IntKind.i64.wrap (M : Int) = (M : Int) := IntWalk.i64_in _ (by omega)
        have HWM := Lib.hid hwm
        clear hwm
        rcases hq with rfl | rfl | rfl
        all_goals
          have cCx := Cls.cell E.out Cx.out
          have cCy := Cls.cell E.out Cy.out
          have cAx := Ax.out
          have cAy := Ay.out
          go_wp2_with fail
          have eM := EM.out
          have hwm := HWM.out
          refine wp_region_calm [0,1,2,3,4,5,7,8,9,10,11] [6,12,13] (by kernel_rfl) (by kernel_rfl) ?_
          iterate 11 ((refine calm_yes rfl rfl (fun w' hC => (by have cCx := hC.cell cCx; have cCy := hC.cell cCy; have cAx := hC.cell cAx; have cAy := hC.cell cAy; go_simp; rfl)) (fun K hK => ?_); go_simp; refine hK _ ?_; clear hK K))
          clear eM hwm
          refine calm_nil (fun wa hCa => ?_)
          refine late_keep rfl rfl hCa (fun wb hxb hCb K hK => ?_)
          go_simp
          refine hK _ _ (Below.alloc hCb hCb.size _) (fun hCc => ?_)
          clear hK K
          clear cCx cCy cAx cAy
          refine late_keep rfl rfl hCc (fun wd hxd hCd K hK => ?_)
          have Eb : Ext wr wb := Ext.trans (ext_cls hCa) hxb
          have Ed : Ext wr wd := Ext.trans (Ext.trans Eb (ext_alloc _ _)) hxd
          have hbz : wr.heap.size ≤ wb.heap.size := Eb.size
          have hdz : wr.heap.size ≤ wd.heap.size := Ed.size
          have Od := own_of_row (n := 1) (B := wr.heap.size) (sz := 2) ((Row.new wb 45 [.int .i64 p.1, .int .i64 p.2]).ext hxd) hbz rfl (by decide)
          refine wp_app (base := wr.heap.size) ei_pt (.tmp 47) (.tmp 52) rfl rfl Od rfl ((Hp.out.ext ptR_stab (Ext.trans E.out Ed)).src ptC_len (fun x us h => h) ptC_one (by decide)) (by omega) hdz ?_
          intro ve we hown hg hat
          refine hK _ _ (own_below hCd Od hg hdz) (fun hCe => ?_)
          clear hK K
          refine late_keep rfl rfl hCe (fun wf hxf hCf K hK => ?_)
          go_simp
          refine hK _ _ hCf (fun hCg => ?_)
          clear hK K
          refine late_nil (fun wz hxz => ?_)
          obtain ⟨A3, cap3, hve⟩ := own_form hown
          have EN : Ext wr wz := Ext.trans (Ext.trans (own_below Ed Od hg hdz) hxf) hxz
          have e3 : 1 + ps.length = (p :: ps).length := by simp; omega
          have Cv : Hid (Pts wz A3 (p :: ps)) := Lib.hid ((own_in (enc := ptC) (R := ptR) (xs := p :: ps) ptC_len (by decide) (by rw [hve, e3] at hown; exact hown) (fun _ => rfl)).ext ptR_stab (Ext.trans hxf hxz))
          have hve' : ve = .slice A3 (p :: ps).length cap3 := by rw [hve, e3]
          clear hown hg hat hve e3 Od Eb Ed hCa hCb hCc hCd hCe hCf hCg hxb hxd hxf hxz
          subst hve'
          replace E := Lib.hid (Ext.trans E.out EN)
          have O1 := Lib.hid (O.out.ext EN)
          have N1 := Lib.hid (own_ext Nw.out EN)
          have hz1 := EN.size
          clear EN
          go_wp2_with fail
          refine (c_sflatten3 A3 cap3 (p :: ps) _ Cv.out Hcv.out (by simp) (by simp; omega)).mono ?_
          rintro e w2 ⟨A4, cap4, rfl, ho4, hb⟩
          have hz2 := hb.size
          replace E := Lib.hid (Ext.trans E.out hb)
          replace N1 := Lib.hid (own_ext N1.out hb)
          replace O1 := Lib.hid ((O1.out.ext hb))
          clear hb
          have P4 := Lib.hid ((own_in (enc := ptC) (R := ptR) ptC_len (by decide) ho4 (fun _ => rfl)))
          clear ho4
          have hfl := flatL_len 8 3 (p :: ps)
          have hfl2 : (flatL 8 3 (p :: ps)).length ≤ 8 := hfl.2
          clear hfl
          generalize flatL 8 3 (p :: ps) = fl at *
          have hB3 : Bn ≤ w2.heap.size := by omega
          go_wp2_with (at_builtin; refine wpList_app (base := Bn) ei_pt rfl (.tmp 54) (.tmp 56) rfl rfl N1.out rfl (P4.out.src ptC_len (fun x us h => h) ptC_one (by decide)) (by omega) hB3 ?_; intro v5 w5 hown hg hat)
          obtain ⟨A5, cap5, hv5⟩ := own_form hown
          have N5 : Hid (Has w5 Bn 45 2 (.slice A5 (now ++ fl).length cap5) (now ++ fl).length ((now ++ fl).flatMap ptC)) := Lib.hid (by
            rw [hv5] at hown; rw [List.length_append, List.flatMap_append]; exact hown)
          have hv5' : v5 = .slice A5 (now ++ fl).length cap5 := by rw [hv5, List.length_append]
          have E5 := Lib.hid (Below.grown E.out hg (by omega) (fun k hk => by have := (N1.out.lt k hk).1; omega))
          have O5 := Lib.hid (O1.out.grownN TP_ne_TR L.out hg (fun k hk => (N1.out.lt k hk).1) (own_ne O1.out.out N1.out (Ne.symm TP_ne_TR)))
          have hz5 : w2.heap.size ≤ w5.heap.size := hg.size
          clear hown hg hat hv5
          subst hv5'
          go_wp2
          go_roundw
          case rel => exact ⟨k + 1, Bn, A1, cap1, out, ss, A5, cap5, now ++ fl, by omega, by go_num, rfl, rfl, Hl2.out.symm, O5.out, N5.out, hB1, by omega, L.out, E5.out⟩
          case measure => simp [intOf]; omega
      · have Hc2 := Lib.hid (Hc.out rfl)
        have cCx := Cls.cell E.out Cx.out
        have cCy := Cls.cell E.out Cy.out
        go_wp2
        go_roundw
        case rel => exact ⟨k + 1, Bn, A1, cap1, out, ss, A2, cap2, now, by omega, by go_num, rfl, rfl, Hc2.out.symm, O.out, Nw.out, hB1, hB2, L.out, E.out⟩
        case measure => simp [intOf]; omega
    · have hk' : k = vs.length := by omega
      have hst2 : (out, now) = ringsSt vs vs.length := by rw [← hk']; exact Hst.out
      by_cases hnl : 0 < now.length
      · have Hf : Hid (RS = out ++ [now]) := Lib.hid (by rw [← HRS.out]; unfold ringsL; rw [← hst2]; exact if_pos hnl)
        have hne : ¬ now = [] := by intro hh; subst hh; simp at hnl
        clear hst2 hk'
        go_wp2_with (at_builtin; refine wpList_app (base := w.heap.size) ei_rg rfl (.tmp 61) (.tmp 63) rfl rfl (own_ext O.out.out (ext_alloc _ _)) rfl (src_new wr _ [_] (m := 1) rfl (by intro u hu; simp at hu; subst hu; rfl)) (by omega) (by simp; omega) ?_; intro ve we hown hg hat; refine stop_in ?_)
        refine stop_out ?_
        obtain ⟨A3, cap3, hve⟩ := own_form hown
        have O3 : Hid (OR we w.heap.size ve (out ++ [now]) (ss ++ [.slice A2 now.length cap2])) := Lib.hid ((O.out.ext (ext_alloc _ _)).push TP_ne_TR ((own_ext Nw.out (ext_alloc _ _)).rebase hB1) L.out (fun g hg => (Nw.out.lt g hg).1) hown hg)
        have E3 := Lib.hid (own_below (Ext.trans E.out (ext_alloc _ _)) (own_ext O.out.out (ext_alloc _ _)) hg (by simp; omega))
        have hve' : ve = .slice A3 (out ++ [now]).length cap3 := by rw [hve, List.length_append]; rfl
        clear hown hg hat hve
        subst hve'
        go_wp2
        go_ret
        rw [Hf.out]
        exact ⟨A3, cap3, _, rfl, O3.out, E3.out⟩
      · have Hf : Hid (RS = out) := Lib.hid (by rw [← HRS.out]; unfold ringsL; rw [← hst2]; exact if_neg hnl)
        have hnI : ¬ (0 : Int) < (now.length : Int) := by omega
        clear hst2 hk'
        go_wp2
        go_ret
        rw [Hf.out]
        exact ⟨A1, cap1, ss, rfl, O.out, E.out⟩
end Go.Proofs.YtagmnbphbakikaaGreat
