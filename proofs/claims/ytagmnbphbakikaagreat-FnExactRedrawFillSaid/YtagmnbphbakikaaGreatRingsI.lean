/-
  The polygons of a path: the program's walk.
-/
import Derived.Test.YtagmnbphbakikaaGreatFlatI
import Derived.Test.YtagmnbphbakikaaGreatMg5
import Derived.Test.YtagmnbphbakikaaGreatMg6
import Derived.Test.YtagmnbphbakikaaGreatMg3
namespace Go.Proofs.YtagmnbphbakikaaGreat
open Go Go.RowKit Reg
attribute [local go_sem] calmAt calmUpon
theorem c_iflatten3 (A : Option Addr) (cap : Nat) (c : List Pt) (w : World) (h : Pts w A c) (hv : VpAll c) (h1 : 1 ≤ c.length) (hl : c.length ≤ 1000) :
    Calls Tryz.prog 151 #[.slice A c.length cap, .int .i64 8, .int .i64 3] w fun e w' => ∃ A' cap', e = .returned (.slice A' (flatI 8 3 c).length cap') ∧ Has w' w.heap.size 45 2 (.slice A' (flatI 8 3 c).length cap') (flatI 8 3 c).length ((flatI 8 3 c).flatMap ptC) ∧ Below w.heap.size w w' :=
  c_iflatten 8 3 A cap c w h hv h1 hl (by omega)
set_option maxRecDepth 100000 in
set_option maxHeartbeats 8000000 in
theorem c_irings (A : Option Addr) (cap : Nat) (vs : List Vb) (w : World) (h : VbK w A vs) (hv : pathOk vs = true) :
    Calls Tryz.prog 117 #[.slice A vs.length cap] w (RetRg w (ringsL vs)) := by
  have H := Lib.hid h
  obtain ⟨hto, hn30⟩ := pathOk_to hv
  have Hto := Lib.hid hto
  obtain ⟨RS, hRS⟩ : ∃ R, ringsL vs = R := ⟨_, rfl⟩
  rw [hRS]
  have HRS := Lib.hid hRS
  clear h hv hto hRS
  go_enter Tryz.func117, Tryz.ntmps117
  go_wp2_with fail
  go_loopw [3, 5, 6, 7, 10] (fun v3 _ _ _ i wr => ∃ (k : Nat) (A1 : Option Addr) (cap1 : Nat) (out : List Rg) (ss : List Value),
    k ≤ vs.length ∧ i = .int .i64 k ∧ v3 = .slice A1 out.length cap1 ∧ out = ringsIt vs k ∧ OR wr w.heap.size (.slice A1 out.length cap1) out ss ∧ Below w.heap.size w wr) (fun _ _ _ _ i _ => vs.length - (intOf i).toNat)
  case atStart => exact ⟨0, none, 0, [], [], Nat.zero_le _, rfl, rfl, rfl, ORg.nil _ _ _ _, Below.refl _ _⟩
  case round =>
    obtain ⟨k, A1, cap1, out, ss, hk, rfl, rfl, hst, ho, hbw⟩ := hrel
    have Hst := Lib.hid hst
    have hol := ringsIt_len (vs := vs) (k := k) (fun i hi => Hto.out i (by omega)) hk
    rw [← hst] at hol
    have O := Lib.hid ho
    have E := Lib.hid hbw
    have hzw : w.heap.size ≤ wr.heap.size := hbw.size
    clear hst ho hbw
    by_cases hkl : k < vs.length
    · obtain ⟨b, off, hA, _, hc⟩ := H.out.vbk (by omega)
      subst hA
      obtain ⟨Av, capv, cx, cy, hp, hsk⟩ := hc k hkl
      obtain ⟨f1, f2, f3, f4⟩ := vbOk_facts (Hto.out k hkl) hkl
      have Hm := Lib.hid (ringsIt_move hkl)
      have Hc := Lib.hid (ringsIt_close hkl)
      have Hl : Hid (_) := Lib.hid (fun h0 h4 h1 => ringsIt_line hkl h0 h4 (fun i hi => Hto.out i (by omega)) h1)
      simp only [← Hst.out] at Hm Hc Hl
      have Cx := Lib.hid (Cls.cell E.out cx)
      have Cy := Lib.hid (Cls.cell E.out cy)
      have Hp := Lib.hid (hp.ext ptR_stab E.out)
      have F3 := Lib.hid (psB_all f3)
      have hkI : decide ((k : Int) < (vs.length : Int)) = true := by simp; omega
      have Hsk := Lib.hid hsk
      clear hc cx cy hp f3 hsk
      generalize vs[k] = vk at *
      obtain ⟨q, ps⟩ := vk
      dsimp only at f1 f2 f4 Hm Hc Hl Cx Cy Hp F3 Hsk
      have F4 := Lib.hid f4
      have F2 := Lib.hid f2
      clear f4 f2
      have hcase : q = 0 ∨ (q = 1 ∨ q = 2 ∨ q = 3) ∨ q = 4 := by omega
      have cx := Cx.out
      have cy := Cy.out
      rcases hcase with rfl | hq | rfl
      · have hpl : ps.length = 1 := F2.out
        have Hm2 := Lib.hid (Hm.out rfl (by omega))
        have Hps : Hid (out ++ [ps] = ringsIt vs (k + 1)) := Lib.hid (by
          rw [Hm2.out]
          match ps, hpl with
          | [p], _ => rfl)
        have hpl3 : ps.length ≤ 3 := by omega
        clear hpl Hm2
        go_wp2_with fail
        refine (c_clone_ei_pt Av ps.length capv (ps.flatMap ptC) _ ((Hp.out.ext ptR_stab (ext_alloc _ _)).src ptC_len (fun x us h => h) ptC_one (by decide)) Hsk.out (by omega)).mono ?_
        rintro e w1 ⟨A2, rfl, _, ho2, hb2⟩
        have O1 := Lib.hid (O.out.ext (Ext.trans (ext_alloc _ _) hb2))
        have E1 := Lib.hid (Ext.trans E.out (Ext.trans (ext_alloc _ _) hb2))
        have N1 := Lib.hid (ho2.rebase (show wr.heap.size ≤ _ by simp))
        have hz1 := hb2.size
        simp only [World.size_alloc] at hz1
        have L := Lib.hid (fun i hi g hg => (O.out.old i hi g hg).2)
        clear ho2 hb2
        go_wp2_with (at_builtin; refine wpList_app (base := w.heap.size) ei_rg rfl (.tmp 18) (.tmp 22) rfl rfl (own_ext O1.out.out (ext_alloc _ _)) rfl (src_new w1 _ [_] (m := 1) rfl (by intro u hu; simp at hu; subst hu; rfl)) (by omega) (by simp; omega) ?_; intro ve we hown hg hat; refine stop_in ?_)
        refine stop_out ?_
        obtain ⟨A3, cap3, hve⟩ := own_form hown
        have O3 : Hid (OR we w.heap.size ve (out ++ [ps]) (ss ++ [.slice A2 ps.length ps.length])) := Lib.hid ((O1.out.ext (ext_alloc _ _)).push (b := wr.heap.size) TP_ne_TR ((own_ext N1.out (ext_alloc _ _)).rebase hzw) L.out (fun g hg => (N1.out.lt g hg).1) hown hg)
        have E3 := Lib.hid (own_below (Ext.trans E1.out (ext_alloc _ _)) (own_ext O1.out.out (ext_alloc _ _)) hg (by simp; omega))
        have hve' : ve = .slice A3 (out ++ [ps]).length cap3 := by rw [hve, List.length_append]; rfl
        clear hown hg hat hve
        subst hve'
        go_wp2
        go_roundw
        case rel => exact ⟨k + 1, A3, cap3, out ++ [ps], _, by omega, by go_num, rfl, Hps.out, O3.out, E3.out⟩
        case measure => simp [intOf]; omega
      · have hk0 : 0 < k := by
          rcases Nat.eq_zero_or_pos k with h | h
          · have := F4.out h; omega
          · exact h
        have hpl : ps.length ≤ 3 := by rw [F2.out]; exact manyOf_le q
        obtain ⟨done, now, e1, e2, e3, e4, e5⟩ := Hl.out (by omega) (by omega) hk0
        obtain ⟨M, hM⟩ : ∃ M, M = done.length := ⟨_, rfl⟩
        have hoM : out.length = M + 1 := by rw [e1, List.length_append, hM]; rfl
        have hMl : M < out.length := by omega
        have hget : out[M] = now := by
          subst hM
          simp only [e1]
          exact List.getElem_concat_length rfl _
        have Hset : Hid (∀ r', out.set M r' = done ++ [r']) := Lib.hid (fun r' => by
          subst hM
          rw [e1, List.set_append_right _ _ (Nat.le_refl _), Nat.sub_self]; rfl)
        have HoM := Lib.hid hoM
        have hin := O.out.inn M hMl
        rw [hget] at hin
        obtain ⟨A2, cap2, hs2⟩ := own_form hin
        have hsl : M < ss.length := by rw [O.out.len]; exact hMl
        have Hs2 : Hid (ss[M] = .slice A2 now.length cap2) := Lib.hid hs2
        have N : Hid (Has wr w.heap.size 45 2 (.slice A2 now.length cap2) now.length (now.flatMap ptC)) := Lib.hid (by rw [hs2] at hin; exact hin)
        obtain ⟨g, hA, hg1, hg2⟩ := own_at O.out.out (by omega)
        subst hA
        have Co : Hid (wr.cell? ⟨g, M, none⟩ = some (.slice A2 now.length cap2)) := Lib.hid (by rw [O.out.out.cellAt M (by omega), List.getElem?_eq_getElem hsl, hs2])
        obtain ⟨L, hL⟩ : ∃ L, L = now.length - 1 := ⟨_, rfl⟩
        have hLl : L < now.length := by omega
        have hld := lastD_at hL hLl
        obtain ⟨g2, hA2, hg3, hg4⟩ := own_at N.out e2
        subst hA2
        have hl2 := N.out.1
        have ax := N.out.cellAt (L * 2) (by omega)
        have ay := N.out.cellAt (L * 2 + 1) (by omega)
        have fx := flat_get ptC_len now [] L hLl 0 (by omega)
        have fy := flat_get ptC_len now [] L hLl 1 (by omega)
        rw [List.append_nil] at fx fy
        have Ax : Hid (wr.cell? ⟨g2, L * 2, none⟩ = some (.int .i64 now[L].1)) := Lib.hid (by rw [ax]; exact fx)
        have Ay : Hid (wr.cell? ⟨g2, L * 2 + 1, none⟩ = some (.int .i64 now[L].2)) := Lib.hid (by rw [ay]; exact fy)
        have hcv : VpAll (now[L] :: ps) := fun p hp => by
          rcases List.mem_cons.1 hp with rfl | hp
          · exact e3 _ (List.getElem_mem _)
          · exact F3.out p hp
        have Hcv := Lib.hid hcv
        rw [hld] at e5
        have E5 := Lib.hid e5
        have eM : ((out.length : Nat) : Int) - 1 = (M : Int) := by omega
        have eMI : (M : Int) < (out.length : Int) := by omega
        have eL : ((now.length : Nat) : Int) - 1 = (L : Int) := by omega
        have eLI : (L : Int) < (now.length : Int) := by omega
        have i1 : (1 : Int) ≤ (now.length : Int) := by omega
        have i1o : (1 : Int) ≤ (out.length : Int) := by omega
        have hn240 : now.length ≤ 240 := by omega
        have hwL : IntKind.i64.wrap (L : Int) = (L : Int) := IntWalk.i64_in _ (by omega)
        have HWL := Lib.hid (And.intro eL hwL)
        clear hM hoM hget hin hs2 hL hld hl2 ax ay fx fy hcv e1 e3 e5 e4 hwL eL Hm Hc Hl Hst
        generalize now[L] = p at *
        have cx := Cx.out
        have cy := Cy.out
        have co := Cls.cell (ext_alloc wr (Obj.cells #[Value.int IntKind.i64 q, Value.slice Av ps.length capv] 128)) Co.out
        have RV := Row.new wr 128 [Value.int IntKind.i64 q, Value.slice Av ps.length capv]
        have cVy := RV.cell_of (i := 1) rfl
        have cAx := Cls.cell (ext_alloc wr (Obj.cells #[Value.int IntKind.i64 q, Value.slice Av ps.length capv] 128)) Ax.out
        have cAy := Cls.cell (ext_alloc wr (Obj.cells #[Value.int IntKind.i64 q, Value.slice Av ps.length capv] 128)) Ay.out
        clear RV f1
        rcases hq with rfl | rfl | rfl
        all_goals
          go_wp2_with fail
          clear cx cy co eM
          obtain ⟨eL, hwL⟩ := HWL.out
          refine wp_region_calm [0,1,2,3,4,5,7,8] [6,9,10] (by kernel_rfl) (by kernel_rfl) ?_
          iterate 8 ((refine calm_yes rfl rfl (fun w' hC => (by have cVy := hC.cell cVy; have cAx := hC.cell cAx; have cAy := hC.cell cAy; go_simp; rfl)) (fun K hK => ?_); go_simp; refine hK _ ?_; clear hK K))
          clear eL hwL
          refine calm_nil (fun wa hCa => ?_)
          refine late_keep rfl rfl hCa (fun wb hxb hCb K hK => ?_)
          go_simp
          refine hK _ _ (Below.alloc hCb hCb.size _) (fun hCc => ?_)
          clear hK K cVy cAx cAy
          refine late_keep rfl rfl hCc (fun wd hxd hCd K hK => ?_)
          have Ew : Ext wr wa := Ext.trans (ext_alloc wr _) (ext_cls hCa)
          have Eb : Ext wr wb := Ext.trans Ew hxb
          have Ed : Ext wr wd := Ext.trans (Ext.trans Eb (ext_alloc _ _)) hxd
          have hbz : wr.heap.size ≤ wb.heap.size := Eb.size
          have hdz : wr.heap.size ≤ wd.heap.size := Ed.size
          have Od := own_of_row (n := 1) (B := wb.heap.size) (sz := 2) ((Row.new wb 45 [.int .i64 p.1, .int .i64 p.2]).ext hxd) (Nat.le_refl _) rfl (by decide)
          have hbd : wb.heap.size ≤ wd.heap.size := by have := hxd.size; simp at this; omega
          refine wp_app (base := wb.heap.size) ei_pt (.tmp 40) (.tmp 42) rfl rfl Od rfl ((Hp.out.ext ptR_stab Ed).src ptC_len (fun x us h => h) ptC_one (by decide)) (by omega) hbd ?_
          intro ve we hown hg hat
          have EdE : Ext wr we := Below.grown Ed hg hdz (fun k hk => Nat.le_trans hbz (Od.lt k hk).1)
          refine hK _ _ (Below.grown hCd hg hCd.size (fun k hk => Nat.le_trans hCb.size (Od.lt k hk).1)) (fun hCe => ?_)
          clear hK K
          refine late_keep rfl rfl hCe (fun wf hxf hCf K hK => ?_)
          go_simp
          refine hK _ _ hCf (fun hCg => ?_)
          clear hK K
          refine late_nil (fun wz hxz => ?_)
          obtain ⟨A3, cap3, hve⟩ := own_form hown
          have EN : Ext wr wz := Ext.trans (Ext.trans EdE hxf) hxz
          have e3 : 1 + ps.length = (p :: ps).length := by simp; omega
          have Cv : Hid (Pts wz A3 (p :: ps)) := Lib.hid ((own_in (enc := ptC) (R := ptR) (xs := p :: ps) ptC_len (by decide) (by rw [hve, e3] at hown; exact hown) (fun _ => rfl)).ext ptR_stab (Ext.trans hxf hxz))
          have hve' : ve = .slice A3 (p :: ps).length cap3 := by rw [hve, e3]
          clear hown hg hat hve e3 Od Ew Eb Ed EdE hCa hCb hCc hCd hCe hCf hCg hxb hxd hxf hxz
          subst hve'
          have E1 := Lib.hid (Ext.trans E.out EN)
          have O1 := Lib.hid (O.out.ext EN)
          have N1 := Lib.hid (own_ext N.out EN)
          have hz1 := EN.size
          clear EN
          go_wp2_with fail
          refine (c_iflatten3 A3 cap3 (p :: ps) _ Cv.out Hcv.out (by simp) (by simp; omega)).mono ?_
          rintro e w2 ⟨A4, cap4, rfl, ho4, hb⟩
          have hsl4 := ho4.slok
          have hz2 := hb.size
          replace E1 := Lib.hid (Ext.trans E1.out hb)
          replace N1 := Lib.hid (own_ext N1.out hb)
          replace O1 := Lib.hid ((O1.out.ext hb))
          clear hb
          have P4 := Lib.hid ((own_in (enc := ptC) (R := ptR) ptC_len (by decide) ho4 (fun _ => rfl)))
          clear ho4
          have hfl := flatL_len 8 3 (p :: ps)
          have hfl2 : (flatL 8 3 (p :: ps)).length ≤ 8 := hfl.2
          have hfl1 := hfl.1
          have hfi : (flatI 8 3 (p :: ps)).drop 1 = flatL 8 3 (p :: ps) := rfl
          have hfn := flatI_len 8 3 (p :: ps)
          have hle4 := hsl4.2.1
          have hmx4 := hsl4.2.2
          unfold maxLen at hmx4
          clear hfl hsl4
          have hsub := P4.out.sub (cap := cap4) (lo := 1) (hi := (flatI 8 3 (p :: ps)).length) (by omega) (Nat.le_refl _) hle4
          rw [List.take_length, hfi] at hsub
          have hsl2 : ∀ W, (Instr.slice 126 (.slice A4 (flatI 8 3 (p :: ps)).length cap4) (some (.int .i64 1)) none none).run Tryz.prog W = .ok (.slice (subA A4 cap4 1 2) ((flatI 8 3 (p :: ps)).length - 1) (cap4 - 1)) W := fun W => run_slice_lo ei_pt _ _ _ 1 1 rfl (by omega) W
          have e : (flatI 8 3 (p :: ps)).length - 1 = (flatL 8 3 (p :: ps)).length := by omega
          rw [e] at hsl2
          have Sr := Lib.hid (hsub.src ptC_len (fun x us h => h) ptC_one (by decide))
          clear hsub e hfi P4
          clear hfl1 hfn hle4
          generalize flatL 8 3 (p :: ps) = fl at *
          generalize (flatI 8 3 (p :: ps)).length = nI at *
          generalize subA A4 cap4 1 2 = As at *
          have hB2 : w.heap.size ≤ w2.heap.size := E1.out.size
          have eM2 : ((out.length : Nat) : Int) - 1 = (M : Int) := by have := HoM.out; omega
          go_wp2_with (at_builtin; refine wpList_app (base := w.heap.size) ei_pt rfl (.tmp 48) (.tmp 51) rfl rfl N1.out rfl Sr.out (by omega) hB2 ?_; intro v5 w5 hown hg hat; refine stop_in ?_)
          refine stop_out ?_
          clear hsl2
          obtain ⟨A5, cap5, hv5⟩ := own_form hown
          have N5 : Hid (Has w5 w.heap.size 45 2 (.slice A5 (now ++ fl).length cap5) (now ++ fl).length ((now ++ fl).flatMap ptC)) := Lib.hid (by
            rw [hv5] at hown; rw [List.length_append, List.flatMap_append]; exact hown)
          have hv5' : v5 = .slice A5 (now ++ fl).length cap5 := by rw [hv5, List.length_append]
          have E6 := Lib.hid (own_below E1.out N1.out hg hB2)
          have G := Lib.hid hg
          have HO5 := Lib.hid (O1.out.out.kept hg (own_ne O1.out.out N1.out (Ne.symm TP_ne_TR)))
          have hz5 : w2.heap.size ≤ w5.heap.size := hg.size
          have hnf : (now ++ fl).length ≤ 1000 := by rw [List.length_append]; omega
          clear hown hg hat hv5
          subst hv5'
          generalize now ++ fl = r' at *
          go_wp2_with fail
          refine (c_clone_ei_pt A5 r'.length cap5 (r'.flatMap ptC) w5 (N5.out.src (flat_one r')) N5.out.slok (by omega)).mono ?_
          rintro e w6 ⟨A6, rfl, _, ho6, hb6⟩
          have Put : Hid (OR (w6.setCell ⟨g, M, none⟩ (.slice A6 r'.length r'.length)) w.heap.size (.slice (some ⟨g, 0, none⟩) (out.set M r').length cap1) (out.set M r') (ss.set M (.slice A6 r'.length r'.length))) := Lib.hid (by
            rw [List.length_set]
            exact O1.out.put TP_ne_TR hsl Hs2.out G.out hb6 ho6)
          have HO6 := own_ext HO5.out hb6
          have c6 := HO6.cellAt M (by omega)
          rw [List.getElem?_eq_getElem hsl] at c6
          have f6 := HO6.frozenAt M
          have E7 := Lib.hid (Ext.trans E6.out hb6)
          have hn7 : (out.set M r').length = out.length := List.length_set
          rw [Hset.out] at Put hn7
          clear ho6 hb6 HO6 HO5 G
          go_wp2
          go_roundw
          case rel => exact ⟨k + 1, _, cap1, done ++ [r'], _, by omega, by go_num, by rw [hn7], E5.out.symm, Put.out, E7.out.setCell (by show w.heap.size ≤ g; omega) _⟩
          case measure => simp [intOf]; omega
      · have Hc2 := Lib.hid (Hc.out rfl)
        go_wp2
        go_roundw
        case rel => exact ⟨k + 1, A1, cap1, out, ss, by omega, by go_num, rfl, Hc2.out.symm, O.out.ext (ext_alloc _ _), Ext.trans E.out (ext_alloc _ _)⟩
        case measure => simp [intOf]; omega
    · have hk' : k = vs.length := by omega
      have Hf : Hid (RS = out) := Lib.hid (by rw [← HRS.out, Hst.out, hk', ringsIt_all])
      have hkI : decide ((k : Int) < (vs.length : Int)) = false := by simp; omega
      clear hk'
      go_wp2_with fail
      refine (c_ClipR A1 out.length cap1 wr O.out.out.slok).mono ?_
      rintro e w1 ⟨rfl, rfl⟩
      go_wp2
      go_ret
      rw [Hf.out]
      exact ⟨A1, out.length, ss, rfl, ⟨O.out.len, O.out.out.clip, O.out.inn, O.out.nd⟩, E.out⟩
end Go.Proofs.YtagmnbphbakikaaGreat
