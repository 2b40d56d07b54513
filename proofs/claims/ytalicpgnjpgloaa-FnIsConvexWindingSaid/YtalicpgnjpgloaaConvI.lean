/-
  Convex polygons: the walk of the program's own way.
-/
import Derived.Test.YtalicpgnjpgloaaPts
import Derived.Test.YtalicpgnjpgloaaConvL
namespace Go.Proofs.Ytalicpgnjpgloaa
open Go Go.RowKit Reg
attribute [local go_sem] calmAt calmUpon

theorem intC_len (n : Int) : (intC n).length = 1 := rfl
set_option maxRecDepth 100000 in
set_option maxHeartbeats 2000000 in
theorem c_implIsConvex (A : Option Addr) (cap : Nat) (ps : List Pt) (w : World) (h : Pts w A ps) (hl : ps.length ≤ 4611686018427387904) :
    Calls Try.prog 6 #[.slice A ps.length cap] w fun e w' => e = .returned (.bool (implConvex ps)) ∧ Below w.heap.size w w' := by
  by_cases h3 : 3 ≤ ps.length
  · by_cases hv : psB ps = true
    · have Hl := psB_len hv
      obtain ⟨m, hm⟩ : ∃ m, m = ps.length - 1 := ⟨_, rfl⟩
      have hml : m < ps.length := by omega
      have hf := firstI_eq h3 hm hml
      have Hf := Lib.hid hf
      obtain ⟨g1, g2⟩ := psB_crd hv hml
      obtain ⟨g3, g4⟩ := psB_crd hv (k := 0) (by omega)
      obtain ⟨g5, g6⟩ := psB_crd hv (k := 1) (by omega)
      obtain ⟨fv, hfv⟩ : ∃ f, f = firstI ps := ⟨_, rfl⟩
      have hfb : -1 ≤ fv ∧ fv ≤ 1 := by rw [hfv]; exact signL_bd _
      have Hfv := Lib.hid hfv
      clear hf hfv
      go_enter Try.func6, Try.ntmps6
      go_wp2_with (go_at_call 23; refine (c_pointsValid A cap ps _ h hl).mono ?_; rw [hv]; rintro e w0 ⟨rfl, hb0⟩)
      obtain ⟨b, off, hA, _hb, hc⟩ := (h.ext ptR_stab hb0).pts (by omega)
      have HA := Lib.hid hA
      subst hA
      obtain ⟨cx0, cy0⟩ := hc m hml
      obtain ⟨cx1, cy1⟩ := hc 0 (by omega)
      obtain ⟨cx2, cy2⟩ := hc 1 (by omega)
      simp only [Nat.zero_mul, Nat.add_zero, Nat.one_mul] at cx1 cy1 cx2 cy2
      have f1 : IntKind.i64.wrap ((ps.length : Int) - 1) = (m : Int) := by rw [hm, IntWalk.i64_in _ (by omega)]; omega
      have f2 : (m : Int) < (ps.length : Int) := by omega
      have f3 : (0 : Int) < (ps.length : Int) := by omega
      have f4 : (1 : Int) < (ps.length : Int) := by omega
      have f5 : 0 < ps.length := by omega
      have f6 : 1 < ps.length := by omega
      clear hc hm
      generalize ps[m] = q0 at *
      generalize ps[0] = q1 at *
      generalize ps[1] = q2 at *
      refine wp_region_calm [0,1,2,3,4,5,6,7,8,9,10,11,12,13] [] (by kernel_rfl) (by kernel_rfl) ?_
      iterate 11 ((refine calm_yes rfl rfl (fun w' hC => (by have cx0 := hC.cell cx0; have cy0 := hC.cell cy0; have cx1 := hC.cell cx1; have cy1 := hC.cell cy1; have cx2 := hC.cell cx2; have cy2 := hC.cell cy2; go_simp; rfl)) (fun K hK => ?_); go_simp; refine hK _ ?_; clear hK K))
      (apply calm_call rfl rfl rfl Try.func25 (by kernel_rfl) rfl (by go_simp; rfl); exact (fun w' hC => c_crossOf q0 q1 q2 w' g1 g2 g3 g4 g5 g6); intro K hK; go_simp; refine hK _ ?_; clear hK K)
      (apply calm_call rfl rfl rfl Try.func24 (by kernel_rfl) rfl (by go_simp; rfl); exact (fun w' hC => by have c := ext_of_same (c_sign (crossL q0 q1 q2) w'); rw [← Hf.out, ← Hfv.out] at c; exact c); intro K hK; go_simp; refine hK _ ?_; clear hK K)
      (refine calm_yes rfl rfl (fun w' hC => (by go_simp; rfl)) (fun K hK => ?_); go_simp; refine hK _ ?_; clear hK K)
      refine calm_done (fun w1 hb1 => ?_)
      have hbw0 := below_ext hb0 hb1
      clear f1 f2 f3 f4 f5 f6 cx0 cx1 cx2 cy0 cy1 cy2 g1 g2 g3 g4 g5 g6 Hf hb1 hb0 _hb HA
      go_wp2_with fail
      go_loopw [4, 36] (fun v i wr => ∃ k : Nat, k ≤ ps.length ∧ i = .int .i64 k ∧ goodI ps k = true ∧ (fv = 0 → k = 0) ∧ Has wr w.heap.size 3 1 v (waysI ps k).length ((waysI ps k).flatMap intC) ∧ Below w.heap.size w wr) (fun _ i _ => ps.length - (intOf i).toNat)
      case atStart => exact ⟨0, Nat.zero_le _, rfl, rfl, fun _ => rfl, own_nil _ _ _ _, hbw0⟩
      case round =>
        obtain ⟨k, hk, rfl, hg, hz, hown, hbw⟩ := hrel
        have Hg := Lib.hid hg
        have Hz := Lib.hid hz
        clear hg hz hbw0
        by_cases hlt : k < ps.length
        · obtain ⟨b', off', hA, _hb, hc⟩ := (h.ext ptR_stab hbw).pts (by omega)
          obtain ⟨rfl, rfl⟩ : b = b' ∧ off = off' := by injection hA with hA; injection hA with h1 h2; exact ⟨h1, h2⟩
          obtain ⟨m1, hm1⟩ : ∃ m, m = (k + 1) % ps.length := ⟨_, rfl⟩
          obtain ⟨m2, hm2⟩ : ∃ m, m = (k + 2) % ps.length := ⟨_, rfl⟩
          have l1 : m1 < ps.length := by rw [hm1]; exact Nat.mod_lt _ (by omega)
          have l2 : m2 < ps.length := by rw [hm2]; exact Nat.mod_lt _ (by omega)
          have hcr : crs ps k = crossL ps[k] ps[m1] ps[m2] := by
            unfold crs
            rw [cyc_at (m := k) (by rw [Nat.mod_eq_of_lt hlt]) hlt, cyc_at hm1 l1, cyc_at hm2 l2]
          have hway : waysI ps (k + 1) = waysI ps k ++ if ps[k].2 = ps[m1].2 then [] else [signL (ps[m1].2 - ps[k].2)] := by
            rw [waysI_succ, wayAt, cyc_at (m := k) (by rw [Nat.mod_eq_of_lt hlt]) hlt, cyc_at hm1 l1]
          obtain ⟨cx0, cy0⟩ := hc k hlt
          obtain ⟨cx1, cy1⟩ := hc m1 l1
          obtain ⟨cx2, cy2⟩ := hc m2 l2
          obtain ⟨g1, g2⟩ := psB_crd hv hlt
          obtain ⟨g3, g4⟩ := psB_crd hv l1
          obtain ⟨g5, g6⟩ := psB_crd hv l2
          have bd0 := (psB_at hv hlt).2
          have bd1 := (psB_at hv l1).2
          generalize ps[k] = p0 at *
          generalize ps[m1] = p1 at *
          generalize ps[m2] = p2 at *
          have f2 : ((k : Int) + 1) % (ps.length : Int) = (m1 : Int) := by rw [hm1]; simp
          have f3 : Int.tmod ((k : Int) + 2) (ps.length : Int) = (m2 : Int) := by rw [hm2]; exact tmod_nat1 k ps.length 2
          have hne : ¬ ps = [] := by intro h; rw [h] at hlt; simp at hlt
          have Hcr := Lib.hid hcr
          have Hway := Lib.hid hway
          clear hcr hway hm1 hm2 hc hA h
          go_wp2_with fail
          generalize hW : World.alloc (World.alloc wr _) _ = W
          have d0x : W.cell? ⟨wr.heap.size, 0, none⟩ = some (.int .i64 p0.1) := by subst hW; go_simp
          have d0y : W.cell? ⟨wr.heap.size, 1, none⟩ = some (.int .i64 p0.2) := by subst hW; go_simp
          have d1x : W.cell? ⟨wr.heap.size + 1, 0, none⟩ = some (.int .i64 p1.1) := by subst hW; go_simp
          have d1y : W.cell? ⟨wr.heap.size + 1, 1, none⟩ = some (.int .i64 p1.2) := by subst hW; go_simp
          have eW : Ext wr W := by subst hW; exact (by repeat (first | exact Below.refl _ _ | assumption | refine Below.drew ?_ | refine Below.alloc ?_ (by first | exact Nat.le_refl _ | omega | (simp; done) | (simp; omega)) _ | refine Below.setCell ?_ (by first | exact Nat.le_refl _ | omega | (simp; done) | (simp; omega)) _))
          have d2x := Cls.cell eW cx2
          have d2y := Cls.cell eW cy2
          clear hW cx0 cx1 cx2 cy0 cy1 cy2
          have f1 : IntKind.i64.wrap ((k : Int) + 2) = (k : Int) + 2 := IntWalk.i64_in _ (by omega)
          have f5 : (m2 : Int) < (ps.length : Int) := by omega
          by_cases hf0 : fv = 0
          · have hfin : implConvex ps = false := by have := Hfv.out; simp [implConvex, ← this, hf0]
            have Hfin := Lib.hid hfin
            subst hf0
            clear hfin
            refine wp_region_calm [0,1,2,3,4,5,6,7,8,9,10,11,12,13,14,15,16] [] (by kernel_rfl) (by kernel_rfl) ?_
            iterate 3 ((refine calm_yes rfl rfl (fun w' hC => (by go_simp; rfl)) (fun K hK => ?_); go_simp; refine hK _ ?_; clear hK K))
            iterate 13 (refine calm_no rfl rfl (fun K hK => ?_); go_simp; refine hK _ ?_; clear hK K)
            (refine calm_yes rfl rfl (fun w' hC => (by go_simp; rfl)) (fun K hK => ?_); go_simp; refine hK _ ?_; clear hK K)
            refine calm_done (fun w1 hb1 => ?_)
            go_wp2
            go_ret
            exact ⟨ret_bb Hfin.out.symm, below_ext hbw (Ext.trans eW hb1)⟩
          · have hb0 : (fv == 0) = false := by simpa using hf0
            obtain ⟨sg, hsg⟩ : ∃ s, s = signL (crossL p0 p1 p2) := ⟨_, rfl⟩
            have Hsg := Lib.hid hsg
            have hsb : -1 ≤ sg ∧ sg ≤ 1 := by rw [hsg]; exact signL_bd _
            have hgd : sg = fv → goodI ps (k + 1) = true := fun hh => by rw [goodI_succ, Hg.out, Hcr.out, ← hsg, ← Hfv.out]; simp [hh]
            have hbad : sg ≠ fv → implConvex ps = false := fun hh => by
              have := goodI_false hlt (by rw [Hcr.out, ← hsg, ← Hfv.out]; exact hh)
              simp [implConvex, this]
            have Hgd := Lib.hid hgd
            have Hbad := Lib.hid hbad
            clear hsg hgd hbad
            refine wp_region_calm [0,1,2,3,4,5,6,7,8,9,10,11,12,13,14,15,16] [] (by kernel_rfl) (by kernel_rfl) ?_
            iterate 12 ((refine calm_yes rfl rfl (fun w' hC => (by have d0x := hC.cell d0x; have d0y := hC.cell d0y; have d1x := hC.cell d1x; have d1y := hC.cell d1y; have d2x := hC.cell d2x; have d2y := hC.cell d2y; go_simp; rfl)) (fun K hK => ?_); go_simp; refine hK _ ?_; clear hK K))
            (apply calm_call rfl rfl rfl Try.func25 (by kernel_rfl) rfl (by go_simp; rfl); exact (fun w' hC => c_crossOf p0 p1 p2 w' g1 g2 g3 g4 g5 g6); intro K hK; go_simp; refine hK _ ?_; clear hK K)
            (apply calm_call rfl rfl rfl Try.func24 (by kernel_rfl) rfl (by go_simp; rfl); exact (fun w' hC => by have c := ext_of_same (c_sign (crossL p0 p1 p2) w'); rw [← Hsg.out] at c; exact c); intro K hK; go_simp; refine hK _ ?_; clear hK K)
            iterate 3 ((refine calm_yes rfl rfl (fun w' hC => (by go_simp; rfl)) (fun K hK => ?_); go_simp; refine hK _ ?_; clear hK K))
            refine calm_done (fun w1 hb1 => ?_)
            have d0y1 := Cls.cell hb1 d0y
            have d1y1 := Cls.cell hb1 d1y
            have e1 := Ext.trans eW hb1
            have hbw1 := below_ext hbw e1
            have hown1 := own_ext hown e1
            have hz1 := hbw1.size
            clear f1 f2 f3 f5 d0x d0y d1x d1y d2x d2y g1 g2 g3 g4 g5 g6 eW hb1 e1 hbw hown hne Hcr Hsg _hb
            by_cases he : sg = fv
            · have hgk := Lib.hid (Hgd.out he)
              have hb3 : (sg != fv) = false := by simp [he]
              clear he
              by_cases hy : p0.2 = p1.2
              · have hw2 : waysI ps (k + 1) = waysI ps k := by rw [Hway.out, if_pos hy, List.append_nil]
                have Hw2 := Lib.hid hw2
                have hb4 : (p0.2 != p1.2) = false := by simp [hy]
                clear hw2 hy
                go_wp2
                go_roundw
                case rel => exact ⟨k + 1, by omega, by go_num, hgk.out, fun hh => absurd hh hf0, by rw [Hw2.out]; exact hown1, hbw1⟩
                case measure => simp [intOf]; omega
              · have hw2 : waysI ps (k + 1) = waysI ps k ++ [signL (p1.2 - p0.2)] := by rw [Hway.out, if_neg hy]
                have Hw2 := Lib.hid hw2
                have hb4 : (p0.2 != p1.2) = true := by simp [hy]
                have hlw := waysI_len ps k
                clear hw2 hy
                go_wp2_with (first
                  | (go_at_call 24; refine (c_sign _ _).mono ?_; rintro e w2 ⟨rfl, rfl⟩)
                  | (at_builtin; refine wpList_app ei_int rfl (.tmp 70) (.tmp 77) rfl rfl (own_ext hown1 (Below.alloc (Below.refl _ _) (Nat.le_refl _) _)) rfl (src_new w1 3 [.int .i64 (signL (p1.2 - p0.2))] (m := 1) rfl (by intro u hu; simp at hu; subst hu; rfl)) (by omega) (by simp; omega) ?_; intro v2 w3 hown3 hg3 hat3))
                have hb3' := own_below (Below.alloc hbw1 hz1 _) (own_ext hown1 (Below.alloc (Below.refl _ _) (Nat.le_refl _) (.cells #[.int .i64 (signL (p1.2 - p0.2))] 3))) hg3 (by simp; omega)
                go_roundw
                case rel => exact ⟨k + 1, by omega, by go_num, hgk.out, fun hh => absurd hh hf0, by rw [Hw2.out]; simpa [intC] using hown3, hb3'⟩
                case measure => simp [intOf]; omega
            · have hb3 : (sg != fv) = true := by simp [he]
              go_wp2
              go_ret
              exact ⟨ret_bb (Hbad.out he).symm, hbw1⟩
        · have hk' : k = ps.length := by omega
          have hf0 : fv ≠ 0 := fun hh => by have := Hz.out hh; omega
          obtain ⟨ws, hws⟩ : ∃ ws, ws = waysI ps k := ⟨_, rfl⟩
          have hwl := waysI_len ps k
          have hfin : implConvex ps = decide (chg ws ws.length = 2) := by
            have h1 := Hg.out
            have h2 := Hfv.out
            rw [hk'] at h1
            simp [implConvex, hv, h3, h1, ← h2, hf0, hws, hk']
          have Hfin := Lib.hid hfin
          rw [← hws] at hown hwl
          obtain ⟨A2, cap2, hform⟩ := own_form hown
          have hin : Ints wr A2 ws := own_in (enc := intC) intC_len (by decide) (by rw [hform] at hown; exact hown) (fun _ => rfl)
          rw [hform]
          clear hform hown hws hfin hk' h Hg Hz Hfv hf0 hfb
          go_wp2_with fail
          go_loopw [9, 82] (fun c i w3 => ∃ j : Nat, j ≤ ws.length ∧ i = .int .i64 j ∧ c = .int .i64 (chg ws j) ∧ Below wr.heap.size wr w3) (fun _ i _ => ws.length - (intOf i).toNat)
          case atStart => exact ⟨0, Nat.zero_le _, rfl, rfl, Below.refl _ _⟩
          case round =>
            obtain ⟨j, hj, rfl, rfl, hb3⟩ := hrel
            have hbd := chg_bd ws j
            have hcs := Lib.hid (chg_succ ws j)
            by_cases hjl : j < ws.length
            · obtain ⟨b2, off2, rfl, _hb2, hc⟩ := (hin.ext intR_stab hb3).ints (by omega)
              obtain ⟨m1, hm1⟩ : ∃ m, m = (j + 1) % ws.length := ⟨_, rfl⟩
              have l1 : m1 < ws.length := by rw [hm1]; exact Nat.mod_lt _ (by omega)
              have hcs2 : chg ws (j + 1) = chg ws j + if ws[j] ≠ ws[m1] then 1 else 0 := by rw [hcs.out, wcyc_at (m := j) (by rw [Nat.mod_eq_of_lt hjl]) hjl, wcyc_at hm1 l1]
              have Hcs2 := Lib.hid hcs2
              have c0 := hc j hjl
              have c1 := hc m1 l1
              have f2 : ((j : Int) + 1) % (ws.length : Int) = (m1 : Int) := by rw [hm1]; simp
              have hne : ¬ ws = [] := by intro h; rw [h] at hjl; simp at hjl
              generalize ws[j] = a at *
              generalize ws[m1] = b at *
              obtain ⟨c, hcc⟩ : ∃ c, c = chg ws j := ⟨_, rfl⟩
              rw [← hcc] at Hcs2 hbd ⊢
              clear hc hcs hcs2 hcc hm1 hin
              by_cases hab : a = b
              · have hb4 : (a != b) = false := by simp [hab]
                have Hab := Lib.hid hab
                clear hab
                go_wp2
                go_roundw
                case rel => exact ⟨j + 1, by omega, by go_num, by rw [Hcs2.out, if_neg (by simpa using Hab.out)]; simp, hb3⟩
                case measure => simp [intOf]; omega
              · have hb4 : (a != b) = true := by simp [hab]
                go_wp2
                go_roundw
                case rel => exact ⟨j + 1, by omega, by go_num, by rw [Hcs2.out, if_pos hab], hb3⟩
                case measure => simp [intOf]; omega
            · have hj' : j = ws.length := by omega
              have hcl : chg ws j = chg ws ws.length := by rw [hj']
              obtain ⟨c, hcc⟩ : ∃ c, c = chg ws j := ⟨_, rfl⟩
              have Hcl : Hid (chg ws ws.length = c) := by rw [hcc, hcl]; exact Lib.hid rfl
              rw [← hcc]
              clear hj' hcl hcc hcs hbd hin
              go_wp2
              go_ret
              exact ⟨ret_bb (by rw [Hfin.out, Hcl.out, Bool.eq_iff_iff]; simp), below_ext hbw hb3⟩
    · simp only [Bool.not_eq_true] at hv
      go_enter Try.func6, Try.ntmps6
      go_wp2_with (go_at_call 23; refine (c_pointsValid A cap ps _ h hl).mono ?_; rw [hv]; rintro e w0 ⟨rfl, hb0⟩)
      go_ret
      exact ⟨ret_bb (by simp [implConvex, hv]), hb0⟩
  · have h3I : ((ps.length : Nat) : Int) < 3 := by omega
    have h3J : ¬ (3 : Int) ≤ ((ps.length : Nat) : Int) := by omega
    go_enter Try.func6, Try.ntmps6
    go_wp2
    go_ret
    exact ⟨ret_bb (by simp [implConvex, h3]), Below.refl _ _⟩
end Go.Proofs.Ytalicpgnjpgloaa
