/-
  impl.CleanRing: the walk.
-/
import Derived.Test.YthfnomlkoiacbaaClean
namespace Go.Proofs.Ythfnomlkoiacbaa
open Go Go.RowKit Reg
attribute [local go_sem] calmAt calmUpon
set_option maxRecDepth 100000 in
set_option maxHeartbeats 4000000 in
theorem c_iCleanRing (A : Option Addr) (cap : Nat) (ps : List Pt) (w : World) (h : Pts w A ps) (hs : SlOk A ps.length cap) (hl : ps.length ≤ 1048576) :
    Calls Try.prog 6 #[.slice A ps.length cap] w fun e w' => ∃ A' cap', e = .returned (.slice A' (cleanR ps).length cap') ∧ Has w' w.heap.size 30 2 (.slice A' (cleanR ps).length cap') (cleanR ps).length ((cleanR ps).flatMap ptC) ∧ Below w.heap.size w w' := by
  by_cases hn : ps.length = 0
  · have hnil : ps = [] := List.eq_nil_of_length_eq_zero hn
    subst hnil
    go_enter Try.func6, Try.ntmps6
    go_wp2
    go_ret
    exact ⟨none, 0, rfl, own_nil _ _ _ _, Below.refl _ _⟩
  have hb1 : (((ps.length : Nat) : Int) == 0) = false := by simp; intro hh; subst hh; simp at hn
  have hne : ¬ ps = [] := by intro hh; subst hh; simp at hn
  have Hn := Lib.hid hn
  have HP := Lib.hid h
  have HS := Lib.hid hs
  clear hn h hs
  by_cases hv : psB ps = true
  · have hl40 := psB_len hv
    have hR : Hid (cleanR ps = cleanL ps) := Lib.hid (by simp [cleanR, hv])
    go_enter Try.func6, Try.ntmps6
    go_wp2_with fail
    refine (c_pointsValid A cap ps _ HP.out (by omega)).mono ?_; rw [hv]; rintro e w0 ⟨rfl, hb0⟩
    have Hv := Lib.hid hv
    have hsrc := (HP.out.ext ptR_stab hb0).src ptC_len (fun x us h => h) ptC_one (by decide)
    have Hb0 := Lib.hid hb0
    clear hv hb0
    go_wp2_with fail
    refine (c_clone_ei_pt A ps.length cap _ w0 hsrc HS.out (by omega)).mono ?_; rintro e w1 ⟨A1, rfl, _, ho1, hb1⟩
    have H1 := Lib.hid (ho1.rebase Hb0.out.size)
    have B1 := Lib.hid (Ext.trans Hb0.out hb1)
    clear ho1 hb1 hsrc
    go_wp2_with fail
    go_loopw [3] (fun v wr => ∃ (A : Option Addr) (cap : Nat) (xs : List Pt), v = .slice A xs.length cap ∧ Has wr w.heap.size 30 2 v xs.length (xs.flatMap ptC) ∧ psB xs = true ∧ cleanL xs = cleanL ps ∧ Below w.heap.size w wr) (fun v _ => slLen v)
    case atStart => exact ⟨A1, ps.length, ps, rfl, H1.out, Hv.out, rfl, B1.out⟩
    case round =>
      obtain ⟨A2, cap2, xs, rfl, hown, hv, hcl, hbw⟩ := hrel
      have hx := psB_len hv
      have Hcl := Lib.hid hcl
      have Hv := Lib.hid hv
      have Hown := Lib.hid hown
      have hz := hbw.size
      clear hcl hv hown
      by_cases h1 : 1 < xs.length
      · obtain ⟨g, rfl, hg1, hg2⟩ := own_at Hown.out (by omega)
        have hxne : ¬ xs = [] := by intro hh; subst hh; simp at h1
        have h1b : decide ((1 : Int) < ((xs.length : Nat) : Int)) = true := by simp; omega
        go_wp2_with fail
        obtain ⟨wo, rfl⟩ : ∃ wo : World, wo = wr := ⟨_, rfl⟩
        go_loopw [5] (fun i wi => ∃ k : Nat, k ≤ xs.length ∧ i = .int .i64 k ∧ noNd xs k ∧ Ext wo wi) (fun i _ => xs.length - (intOf i).toNat)
        case atStart => exact ⟨0, Nat.zero_le _, rfl, fun i hi => by omega, Below.refl _ _⟩
        case round =>
          obtain ⟨k, hk, rfl, hno, hbi⟩ := hrel
          have Hno := Lib.hid hno
          have HI := Lib.hid (own_ext Hown.out hbi)
          have BI := Lib.hid (below_ext hbw hbi)
          have hzi : wo.heap.size ≤ wr.heap.size := hbi.size
          clear hno
          by_cases hlt : k < xs.length
          · have hP : Pts wr (some ⟨g, 0, none⟩) xs := own_in (R := ptR) (enc := ptC) ptC_len (by decide) HI.out (fun _ => rfl)
            obtain ⟨b, off, hA, _hb, hc⟩ := hP.pts (by omega)
            injection hA with hA
            injection hA with hA1 hA2
            subst hA1 hA2
            obtain ⟨m0, hm0⟩ : ∃ m, m = (k + xs.length - 1) % xs.length := ⟨_, rfl⟩
            obtain ⟨m1, hm1⟩ : ∃ m, m = (k + 1) % xs.length := ⟨_, rfl⟩
            have l0 : m0 < xs.length := by rw [hm0]; exact Nat.mod_lt _ (by omega)
            have l1 : m1 < xs.length := by rw [hm1]; exact Nat.mod_lt _ (by omega)
            have hnd : ndAt xs k = ndB xs[m0] xs[k] xs[m1] := by rw [ndAt_eq hlt]; simp only [hm0, hm1]
            obtain ⟨cx0, cy0⟩ := hc m0 l0
            obtain ⟨cx1, cy1⟩ := hc k hlt
            obtain ⟨cx2, cy2⟩ := hc m1 l1
            obtain ⟨bx0, by0⟩ := psB_crd Hv.out l0
            obtain ⟨bx1, by1⟩ := psB_crd Hv.out hlt
            obtain ⟨bx2, by2⟩ := psB_crd Hv.out l1
            simp only [Nat.zero_add] at cx0 cy0 cx1 cy1 cx2 cy2
            generalize xs[m0] = p0 at *
            generalize xs[k] = p1 at *
            generalize xs[m1] = p2 at *
            have f1 : IntKind.i64.wrap ((k : Int) + (xs.length : Int)) = (k : Int) + (xs.length : Int) := IntWalk.i64_in _ (by omega)
            have f2 : IntKind.i64.wrap ((k : Int) + (xs.length : Int) - 1) = (k : Int) + (xs.length : Int) - 1 := IntWalk.i64_in _ (by omega)
            have f3 : IntKind.i64.wrap ((k : Int) + 1) = (k : Int) + 1 := IntWalk.i64_in _ (by omega)
            have f4 : Int.tmod ((k : Int) + (xs.length : Int) - 1) (xs.length : Int) = (m0 : Int) := by
              rw [hm0, show (k : Int) + (xs.length : Int) - 1 = ((k + xs.length - 1 : Nat) : Int) by omega, tmod_nat]
            have f5 : Int.tmod ((k : Int) + 1) (xs.length : Int) = (m1 : Int) := by rw [hm1, show (k : Int) + 1 = ((k + 1 : Nat) : Int) by omega, tmod_nat]
            obtain ⟨i0a, i0b⟩ : (0 : Int) ≤ (m0 : Int) ∧ (m0 : Int) < (xs.length : Int) := by omega
            obtain ⟨i1a, i1b⟩ : (0 : Int) ≤ (k : Int) ∧ (k : Int) < (xs.length : Int) := by omega
            obtain ⟨i2a, i2b⟩ : (0 : Int) ≤ (m1 : Int) ∧ (m1 : Int) < (xs.length : Int) := by omega
            have Hnd := Lib.hid hnd
            have HBI := Lib.hid hbi
            clear hnd hm0 hm1 hc hP hbi
            go_wp2_with fail
            refine wp_region_calm [0,1,2,3,4,5,6,7,8,9,10,11,12,13,14,15,16,17,18,19,20,21,22,23,24,25,26] [] (by kernel_rfl) (by kernel_rfl) ?_
            iterate 24 ((refine calm_yes rfl rfl (fun w' hC => (by have cx0 := hC.cell cx0; have cy0 := hC.cell cy0; have cx1 := hC.cell cx1; have cy1 := hC.cell cy1; have cx2 := hC.cell cx2; have cy2 := hC.cell cy2; go_simp; rfl)) (fun K hK => ?_); go_simp; refine hK _ ?_; clear hK K))
            (apply calm_call rfl rfl rfl Try.func19 (by kernel_rfl) rfl (by go_simp; rfl); exact (fun w' hC => c_between p0 p1 p2 w' bx0 by0 bx1 by1 bx2 by2); intro K hK; go_simp; refine hK _ ?_; clear hK K)
            iterate 2 ((refine calm_yes rfl rfl (fun w' hC => (by go_simp; rfl)) (fun K hK => ?_); go_simp; refine hK _ ?_; clear hK K))
            refine calm_done (fun w1 hb1 => ?_)
            clear f1 f2 f3 f4 f5 cx0 cy0 cx1 cy1 cx2 cy2 bx0 by0 bx1 by1 bx2 by2
            rw [← Hnd.out]
            have B1 := Lib.hid (Ext.trans HBI.out hb1)
            have H1 := Lib.hid (own_ext HI.out hb1)
            obtain ⟨d, hd⟩ : ∃ d, d = ndAt xs k := ⟨_, rfl⟩
            rw [← hd]
            have Hd := Lib.hid hd
            clear hd hb1
            cases d
            · go_wp2
              go_roundw
              case rel => exact ⟨k + 1, by omega, by go_num, noNd_succ Hno.out Hd.out.symm, B1.out⟩
              case measure => simp [intOf]; omega
            · have hfs := Lib.hid (fstNd_some h1 hlt Hno.out Hd.out.symm)
              have hcl : Hid (cleanL (xs.eraseIdx k) = cleanL ps) := Lib.hid (by rw [← cleanL_some hfs.out, Hcl.out])
              have hel : (xs.eraseIdx k).length + 1 = xs.length := by rw [List.length_eraseIdx_of_lt hlt]; omega
              have hkn : ((k : Int) == (xs.length : Int)) = false := by simp; omega
              have hz1 : w.heap.size ≤ w1.heap.size := by have := B1.out.size; omega
              go_wp2_with fail
              refine (c_Delete g cap2 k xs w1 w.heap.size H1.out hlt (by omega) hz1).mono ?_
              rintro e w5 ⟨rfl, ho5, hb5⟩
              have H5 := Lib.hid ho5
              have B5 := Lib.hid (Below.trans (below_ext hbw B1.out) hb5)
              clear ho5 hb5
              go_wp2
              go_roundw
              case rel => exact ⟨some ⟨g, 0, none⟩, cap2, xs.eraseIdx k, rfl, H5.out, psB_erase Hv.out k, hcl.out, B5.out⟩
              case measure => simp [slLen]; omega
          · obtain rfl : k = xs.length := by omega
            have hfs : fstNd xs = none := fstNd_none (.inr Hno.out)
            have hfin : Hid (cleanR ps = xs) := Lib.hid (by rw [hR.out, ← Hcl.out, cleanL_none hfs])
            clear hfs
            have HBI := Lib.hid hbi
            clear hbi
            go_wp2_with fail
            refine wp_region_calm [0,1,2,3,4,5,6,7,8,9,10,11,12,13,14,15,16,17,18,19,20,21,22,23,24,25,26] [] (by kernel_rfl) (by kernel_rfl) ?_
            iterate 27 ((first | (refine calm_yes rfl rfl (fun w' hC => (by go_simp; rfl)) (fun K hK => ?_); go_simp; refine hK _ ?_; clear hK K) | (refine calm_no rfl rfl (fun K hK => ?_); go_simp; refine hK _ ?_; clear hK K)))
            refine calm_done (fun w1 hb1 => ?_)
            have H1 := Lib.hid (own_ext HI.out hb1)
            have B1 := Lib.hid (below_ext BI.out hb1)
            have hz1 : w.heap.size ≤ w1.heap.size := by have := B1.out.size; omega
            clear hb1
            go_wp2_with fail
            refine (c_clone_ei_pt (some ⟨g, 0, none⟩) xs.length cap2 _ w1 (H1.out.src (by intro u hu; obtain ⟨x, _, hx⟩ := List.mem_flatMap.1 hu; exact ptC_one x u hx)) H1.out.slok (by omega)).mono ?_; rintro e w4 ⟨A4, rfl, _, ho4, hb4⟩
            have H4 := Lib.hid (ho4.rebase hz1)
            have B4 := Lib.hid (below_ext B1.out hb4)
            clear ho4 hb4
            go_wp2
            go_ret
            rw [hfin.out]
            exact ⟨A4, xs.length, rfl, H4.out, B4.out⟩
      · have hfs : fstNd xs = none := fstNd_none (.inl (by omega))
        have hfin : Hid (cleanR ps = xs) := Lib.hid (by rw [hR.out, ← Hcl.out, cleanL_none hfs])
        clear hfs
        go_wp2_with fail
        refine (c_clone_ei_pt A2 xs.length cap2 _ wr (Hown.out.src (by intro u hu; obtain ⟨x, _, hx⟩ := List.mem_flatMap.1 hu; exact ptC_one x u hx)) Hown.out.slok (by omega)).mono ?_; rintro e w4 ⟨A4, rfl, _, ho4, hb4⟩
        have H4 := Lib.hid (ho4.rebase hz)
        have B4 := Lib.hid (below_ext hbw hb4)
        clear ho4 hb4
        go_wp2
        go_ret
        rw [hfin.out]
        exact ⟨A4, xs.length, rfl, H4.out, B4.out⟩
  · simp only [Bool.not_eq_true] at hv
    go_enter Try.func6, Try.ntmps6
    go_wp2_with fail
    refine (c_pointsValid A cap ps _ HP.out (by omega)).mono ?_; rw [hv]; rintro e w0 ⟨rfl, hb0⟩
    go_wp2
    go_ret
    have hR : cleanR ps = [] := by simp [cleanR, hv]
    rw [hR]
    exact ⟨none, 0, rfl, own_nil _ _ _ _, hb0⟩
end Go.Proofs.Ythfnomlkoiacbaa
