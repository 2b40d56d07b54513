/-
  Curves flattened: the program's walk.
-/
import Derived.Test.YtagmnbphbakikaaGreatSplitI
import Derived.Test.YtagmnbphbakikaaGreatMg3
namespace Go.Proofs.YtagmnbphbakikaaGreat
open Go Go.RowKit Reg
attribute [local go_sem] calmAt calmUpon
set_option maxRecDepth 100000 in
set_option maxHeartbeats 2000000 in
theorem c_iflatten (limit : Int) (d : Nat) : ∀ (A : Option Addr) (cap : Nat) (c : List Pt) (w : World), Pts w A c → VpAll c → 1 ≤ c.length → c.length ≤ 1000 → d ≤ 10 →
    Calls Tryz.prog 151 #[.slice A c.length cap, .int .i64 limit, .int .i64 d] w fun e w' => ∃ A' cap', e = .returned (.slice A' (flatI limit d c).length cap') ∧ Has w' w.heap.size 45 2 (.slice A' (flatI limit d c).length cap') (flatI limit d c).length ((flatI limit d c).flatMap ptC) ∧ Below w.heap.size w w' := by
  induction d with
  | zero =>
    intro A cap c w h hv h1 hl hd
    obtain ⟨b, off, hA, hb, hc⟩ := h.pts (by omega)
    subst hA
    obtain ⟨M, hM⟩ : ∃ M, M = c.length - 1 := ⟨_, rfl⟩
    have hMl : M < c.length := by omega
    have Hf : Hid (flatI limit 0 c = [c[0], c[M]]) := Lib.hid (by rw [flatI_zero, lastD_at hM hMl, headD_at (by omega)])
    obtain ⟨ax, ay⟩ := hc M hMl
    obtain ⟨cx, cy⟩ := hc 0 (by omega)
    simp only [Nat.zero_mul, Nat.add_zero] at cx cy
    have eM : ((c.length : Nat) : Int) - 1 = (M : Int) := by omega
    have eMI : (M : Int) < (c.length : Int) := by omega
    rw [Hf.out]
    clear h hv hc hM Hf
    generalize c[M] = pL at *
    generalize c[0] = p0 at *
    have i1 : (1 : Int) ≤ (c.length : Int) := by omega
    have i0 : (0 : Int) < (c.length : Int) := by omega
    have i0n : 0 < c.length := by omega
    have hwm : IntKind.i64.wrap (M : Int) = (M : Int) := IntWalk.i64_in _ (by omega)
    obtain ⟨w1, hw1⟩ : ∃ w1 : World, w1 = w := ⟨_, rfl⟩
    subst hw1
    have E := Lib.hid (Below.refl w1.heap.size w1)
    have HWM := Lib.hid hwm
    have EM := Lib.hid eM
    clear hwm
    go_enter Tryz.func151, Tryz.ntmps151
    go_wp2_with fail
    have cCx := cx
    have cCy := cy
    have cDx := ax
    have cDy := ay
    have hwm := HWM.out
    clear cx cy ax ay
    refine wp_region_calm [0,1,2,3,4,5,6,7,8] [9,10] (by kernel_rfl) (by kernel_rfl) ?_
    iterate 9 ((refine calm_yes rfl rfl (fun w' hC => (by have cCx := hC.cell cCx; have cCy := hC.cell cCy; have cDx := hC.cell cDx; have cDy := hC.cell cDy; go_simp; rfl)) (fun K hK => ?_); go_simp; refine hK _ ?_; clear hK K))
    refine calm_nil (fun wa hCa => ?_)
    refine late_keep rfl rfl hCa (fun wb hxb hCb K hK => ?_)
    go_simp
    refine hK _ _ (Below.alloc hCb hCb.size _) (fun hCc => ?_)
    clear hK K
    refine late_keep rfl rfl hCc (fun wf hxf hCf K hK => ?_)
    go_simp
    refine hK _ _ hCf (fun hCg => ?_)
    clear hK K
    refine late_nil (fun wz hxz => ?_)
    have Eb : Ext w1 wb := Ext.trans (ext_cls hCa) hxb
    have R1 := (Row.new wb 45 [.int .i64 p0.1, .int .i64 p0.2, .int .i64 pL.1, .int .i64 pL.2]).ext (Ext.trans hxf hxz)
    have hbz := Nat.le_trans E.out.size Eb.size
    have EN := Ext.trans E.out (Ext.trans Eb (Ext.trans (ext_alloc wb _) (Ext.trans hxf hxz)))
    clear hCa hCb hCc hCf hCg hxb hxf hxz
    go_wp2
    go_ret
    exact ⟨_, 2, rfl, own_of_row (n := 2) R1 hbz rfl (by decide), EN⟩
  | succ d ih =>
    intro A cap c w h hv h1 hl hd
    have IH := Lib.hid ih
    have H := Lib.hid h
    have Hv := Lib.hid hv
    have KB := Lib.hid (c_ibend A cap c w h hv h1 (by omega))
    clear ih
    have hdI : ((((d + 1 : Nat) : Nat) : Int) == 0) = false := by simp; omega
    have E := Lib.hid (Below.refl w.heap.size w)
    by_cases hb : bendL c ≤ limit
    · obtain ⟨b, off, hA, hb0, hc⟩ := h.pts (by omega)
      subst hA
      obtain ⟨M, hM⟩ : ∃ M, M = c.length - 1 := ⟨_, rfl⟩
      have hMl : M < c.length := by omega
      have Hf : Hid (flatI limit (d + 1) c = [c[0], c[M]]) := Lib.hid (by rw [flatI_flat hb, lastD_at hM hMl, headD_at (by omega)])
      obtain ⟨ax, ay⟩ := hc M hMl
      obtain ⟨cx, cy⟩ := hc 0 (by omega)
      simp only [Nat.zero_mul, Nat.add_zero] at cx cy
      have eM : ((c.length : Nat) : Int) - 1 = (M : Int) := by omega
      have eMI : (M : Int) < (c.length : Int) := by omega
      rw [Hf.out]
      clear h hv hc hM Hf H Hv
      generalize c[M] = pL at *
      generalize c[0] = p0 at *
      have Dx := Lib.hid ax
      have Dy := Lib.hid ay
      have Cx := Lib.hid cx
      have Cy := Lib.hid cy
      have EM := Lib.hid eM
      have hwm : IntKind.i64.wrap (M : Int) = (M : Int) := IntWalk.i64_in _ (by omega)
      have HWM := Lib.hid hwm
      clear ax ay eM cx cy hwm
      generalize bendL c = bn at *
      have i1 : (1 : Int) ≤ (c.length : Int) := by omega
      have i0 : (0 : Int) < (c.length : Int) := by omega
      have i0n : 0 < c.length := by omega
      go_enter Tryz.func151, Tryz.ntmps151
      go_wp2_with fail
      refine (KB.out).mono ?_
      rintro e w1 ⟨rfl, hb⟩
      replace E := Lib.hid (Ext.trans E.out hb)
      replace Cx := Lib.hid (Cls.cell hb Cx.out)
      replace Cy := Lib.hid (Cls.cell hb Cy.out)
      replace Dx := Lib.hid (Cls.cell hb Dx.out)
      replace Dy := Lib.hid (Cls.cell hb Dy.out)
      clear hb
      have cCx := Cx.out
      have cCy := Cy.out
      have cDx := Dx.out
      have cDy := Dy.out
      go_wp2_with fail
      have eM := EM.out
      have hwm := HWM.out
      have cCx := Cx.out
      have cCy := Cy.out
      have cDx := Dx.out
      have cDy := Dy.out
      refine wp_region_calm [0,1,2,3,4,5,6,7,8] [9,10] (by kernel_rfl) (by kernel_rfl) ?_
      iterate 9 ((refine calm_yes rfl rfl (fun w' hC => (by have cCx := hC.cell cCx; have cCy := hC.cell cCy; have cDx := hC.cell cDx; have cDy := hC.cell cDy; go_simp; rfl)) (fun K hK => ?_); go_simp; refine hK _ ?_; clear hK K))
      refine calm_nil (fun wa hCa => ?_)
      refine late_keep rfl rfl hCa (fun wb hxb hCb K hK => ?_)
      go_simp
      refine hK _ _ (Below.alloc hCb hCb.size _) (fun hCc => ?_)
      clear hK K
      refine late_keep rfl rfl hCc (fun wf hxf hCf K hK => ?_)
      go_simp
      refine hK _ _ hCf (fun hCg => ?_)
      clear hK K
      refine late_nil (fun wz hxz => ?_)
      have Eb : Ext w1 wb := Ext.trans (ext_cls hCa) hxb
      have R1 := (Row.new wb 45 [.int .i64 p0.1, .int .i64 p0.2, .int .i64 pL.1, .int .i64 pL.2]).ext (Ext.trans hxf hxz)
      have hbz := Nat.le_trans E.out.size Eb.size
      have EN := Ext.trans E.out (Ext.trans Eb (Ext.trans (ext_alloc wb _) (Ext.trans hxf hxz)))
      clear hCa hCb hCc hCf hCg hxb hxf hxz
      go_wp2
      go_ret
      exact ⟨_, 2, rfl, own_of_row (n := 2) R1 hbz rfl (by decide), EN⟩
    · obtain ⟨v1, v2⟩ := splitL_vp hv (by omega)
      obtain ⟨l1, l2⟩ := splitL_len (c := c) (by omega)
      have Hf : Hid (flatI limit (d + 1) c = flatI limit d (splitL c).1 ++ (flatI limit d (splitL c).2).drop 1) := Lib.hid (flatI_bent hb)
      obtain ⟨F, hF⟩ : ∃ F, flatI limit (d + 1) c = F := ⟨_, rfl⟩
      rw [hF]
      have HF : Hid (flatI limit d (splitL c).1 ++ (flatI limit d (splitL c).2).drop 1 = F) := Lib.hid (by rw [← Hf.out, hF])
      clear hF Hf
      have hle1 := flatL_len limit d (splitL c).1
      have hle2 := flatL_len limit d (splitL c).2
      have hp2 : 2 ^ d ≤ 2 ^ 10 := Nat.pow_le_pow_right (by omega) (by omega)
      have hb1 : (flatI limit d (splitL c).1).length ≤ 1025 := by rw [flatI_len]; omega
      have hb2 : (flatI limit d (splitL c).2).length ≤ 1025 := by rw [flatI_len]; omega
      have hb3 : 1 ≤ (flatI limit d (splitL c).2).length := by rw [flatI_len]; omega
      have hz1 : 1 ≤ (splitL c).1.length := by omega
      have hz2 : 1 ≤ (splitL c).2.length := by omega
      have hz3 : (splitL c).1.length ≤ 1000 := by omega
      have hz4 : (splitL c).2.length ≤ 1000 := by omega
      have KS := Lib.hid (fun W (hW : Pts W A c) => c_isplit A cap c W hW hv (by omega) hl)
      have V1 := Lib.hid v1
      have V2 := Lib.hid v2
      clear h hv v1 v2 l1 l2 hle1 hle2 hp2
      generalize bendL c = bn at *
      generalize hsp : splitL c = sp at *
      clear hsp
      obtain ⟨s1, s2⟩ := sp
      try dsimp only at hz1 hz2 hz3 hz4 hb1 hb2 hb3 V1 V2 KS HF
      have eD : (((d + 1 : Nat) : Nat) : Int) - 1 = (d : Int) := by omega
      have ED := Lib.hid eD
      clear eD
      go_enter Tryz.func151, Tryz.ntmps151
      go_wp2_with fail
      refine (KB.out).mono ?_
      rintro e w1 ⟨rfl, hb⟩
      replace E := Lib.hid (Ext.trans E.out hb)
      replace H := Lib.hid (H.out.ext ptR_stab hb)
      clear hb
      go_wp2_with fail
      refine (KS.out _ H.out).mono ?_
      rintro e w2 ⟨A1, cap1, A2, cap2, rfl, hs1, hs2, hb⟩
      replace E := Lib.hid (Ext.trans E.out hb)
      replace H := Lib.hid (H.out.ext ptR_stab hb)
      clear hb
      have S1 := Lib.hid (hs1)
      clear hs1
      have S2 := Lib.hid (hs2)
      clear hs2
      have eD := ED.out
      have hzB : w.heap.size ≤ w2.heap.size := E.out.size
      go_wp2_with fail
      refine (IH.out A1 cap1 s1 _ S1.out V1.out hz1 hz3 (by omega)).mono ?_
      rintro e w3 ⟨A3, cap3, rfl, ho3, hb⟩
      replace E := Lib.hid (Ext.trans E.out hb)
      replace H := Lib.hid (H.out.ext ptR_stab hb)
      replace S1 := Lib.hid (S1.out.ext ptR_stab hb)
      replace S2 := Lib.hid (S2.out.ext ptR_stab hb)
      clear hb
      have O3 := Lib.hid ((ho3.rebase hzB))
      clear ho3
      have eD := ED.out
      go_wp2_with fail
      refine (IH.out A2 cap2 s2 _ S2.out V2.out hz2 hz4 (by omega)).mono ?_
      rintro e w4 ⟨A4, cap4, rfl, ho4, hb⟩
      have hsl4 := ho4.slok
      replace E := Lib.hid (Ext.trans E.out hb)
      replace H := Lib.hid (H.out.ext ptR_stab hb)
      replace S1 := Lib.hid (S1.out.ext ptR_stab hb)
      replace S2 := Lib.hid (S2.out.ext ptR_stab hb)
      replace O3 := Lib.hid (own_ext O3.out hb)
      clear hb
      have P4 := Lib.hid ((own_in (enc := ptC) (R := ptR) ptC_len (by decide) ho4 (fun _ => rfl)))
      clear ho4 eD
      have hzE : w.heap.size ≤ w4.heap.size := E.out.size
      have hle4 := hsl4.2.1
      have hmx4 := hsl4.2.2
      unfold maxLen at hmx4
      clear hsl4
      generalize flatI limit d s1 = f1 at *
      generalize flatI limit d s2 = f2 at *
      have hsub := P4.out.sub (cap := cap4) (lo := 1) (hi := f2.length) (by omega) (Nat.le_refl _) hle4
      rw [List.take_length] at hsub
      have hsl : ∀ W, (Instr.slice 126 (.slice A4 f2.length cap4) (some (.int .i64 1)) none none).run Tryz.prog W = .ok (.slice (subA A4 cap4 1 2) (f2.length - 1) (cap4 - 1)) W := fun W => run_slice_lo ei_pt _ _ _ 1 1 rfl (by omega) W
      have e : f2.length - 1 = (f2.drop 1).length := by simp
      have htl : (f2.drop 1).length ≤ 1025 := by simp; omega
      rw [e] at hsl
      have Sr := Lib.hid (hsub.src ptC_len (fun x us h => h) ptC_one (by decide))
      clear hsub e
      generalize f2.drop 1 = t at *
      generalize subA A4 cap4 1 2 = As at *
      generalize f2.length = n2 at *
      go_wp2_with (at_builtin; refine wpList_app (base := w.heap.size) ei_pt rfl (.tmp 36) (.tmp 42) rfl rfl O3.out rfl Sr.out (by omega) hzE ?_; intro v w5 hown hg hat)
      obtain ⟨A5, cap5, hv5⟩ := own_form hown
      have O5 : Hid (Has w5 w.heap.size 45 2 (.slice A5 (f1 ++ t).length cap5) (f1 ++ t).length ((f1 ++ t).flatMap ptC)) := Lib.hid (by
        rw [hv5] at hown; rw [List.length_append, List.flatMap_append]; exact hown)
      have hv5' : v = .slice A5 (f1 ++ t).length cap5 := by rw [hv5, List.length_append]
      have E5 := Lib.hid (own_below E.out O3.out hg hzE)
      clear hown hg hat hv5
      subst hv5'
      go_wp2
      go_ret
      rw [← HF.out]
      exact ⟨A5, cap5, rfl, O5.out, E5.out⟩
end Go.Proofs.YtagmnbphbakikaaGreat
