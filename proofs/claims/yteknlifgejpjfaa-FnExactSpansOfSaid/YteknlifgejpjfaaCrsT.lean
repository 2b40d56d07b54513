/-
  The crossings of a row: the reference's walk.
-/
import Derived.Test.YteknlifgejpjfaaCrsS
import Derived.Test.YteknlifgejpjfaaRegionL
namespace Go.Proofs.Yteknlifgejpjfaa
open Go Go.RowKit Reg
attribute [local go_sem] calmAt calmUpon
theorem corners_tkC (rs : List Rg) (k : Nat) : corners (rs.take k) ≤ corners rs := by
  conv => rhs; rw [← List.take_append_drop k rs]
  rw [corners_append]; omega
theorem srtC_len (l : List Pt) : (srtC l).length = l.length := (srtC_perm l).length_eq
theorem srtC_cons (l : List Pt) (c : Pt) : srtC (c :: srtC l) = srtC (l ++ [c]) :=
  srtC_eq (srtC_srt _) ((srtC_perm _).trans (((srtC_perm l).cons c).trans (List.perm_append_singleton c l).symm))
theorem crsL_snoc (es : List Ed) (e : Ed) (y : Int) : crsL (es ++ [e]) y = crsL es y ++ crsE y e.1 e.2 := by
  unfold crsL; rw [List.flatMap_append]; simp
theorem dir_no {y ay bz ax bx : Int} (h : ay = bz ∨ inB y (min ay bz) (max ay bz - 1) = false) : dirE y (ax, ay) (bx, bz) = 0 := by
  unfold dirE
  dsimp only
  rcases h with h | h
  · rw [if_neg (by omega), if_neg (by omega)]
  · rw [Bool.eq_false_iff, ne_eq, inB_iff] at h
    rw [if_neg (by omega), if_neg (by omega)]
theorem dir_yes {y ay bz : Int} (h : inB y (min ay bz) (max ay bz - 1) = true) : (ay ≤ y ∧ y < bz) ∨ (bz ≤ y ∧ y < ay) := by
  rw [inB_iff] at h; omega
theorem crs_no {y : Int} {es : List Ed} {e : Ed} (h : dirE y e.1 e.2 = 0) : srtC (crsL (es ++ [e]) y) = srtC (crsL es y) := by
  rw [crsL_snoc]; unfold crsE; rw [if_pos h, List.append_nil]
theorem crs_yes {y : Int} {es : List Ed} {e : Ed} {d : Int} (h : dirE y e.1 e.2 = d) (hd : d ≠ 0) : srtC (crsL (es ++ [e]) y) = srtC (((frst y e.1 e.2 : Nat), d) :: srtC (crsL es y)) := by
  rw [crsL_snoc, srtC_cons]; unfold crsE; rw [if_neg (by rw [h]; exact hd), h]
set_option maxRecDepth 100000 in
set_option maxHeartbeats 16000000 in
theorem c_scrossings (A : Option Addr) (cap : Nat) (rs : List Rg) (y : Int) (w : World) (h : Rgs w A rs) (hv : rgsB rs = true) (hy : -2000 ≤ y ∧ y ≤ 2000) :
    Calls Try.prog 22 #[.slice A rs.length cap, .int .i64 y] w fun e w' => RetP 47 w (srtC (crsL (edgesS rs) y)) e w' := by
  have H := Lib.hid h
  have hr := rgsB_iff.1 hv
  have hrl : rs.length ≤ 8 := hr.2.1
  have hcr : corners rs ≤ 200 := hr.2.2
  have Hr := Lib.hid hr.1
  obtain ⟨hy1, hy2⟩ := hy
  clear h hr
  have E := Lib.hid (Below.refl w.heap.size w)
  go_enter Try.func22, Try.ntmps22
  go_wp2_with fail
  first | refine gen_calls ?_ | refine gen_code ?_ | refine gen_list ?_
  intro w1 hW
  obtain ⟨hb, hZ⟩ := new1 hW
  clear hW
  replace E := Lib.hid (Ext.trans E.out hb)
  clear hb
  have Z := Lib.hid hZ
  have lZ := Z.out.lt
  clear hZ
  have O := Lib.hid (own_of_row (n := 0) (B := w.heap.size) (sz := 2) Z.out (by omega) rfl (by decide))
  clear Z lZ
  go_wp2_with fail
  go_loopw [5, 6, 7, 8, 9] (fun o i _ _ _ wr => ∃ (k : Nat) (A1 : Option Addr) (cap1 : Nat) (cs : List Pt), k ≤ rs.length ∧ i = .int .i64 k ∧ o = .slice A1 cs.length cap1 ∧ cs = srtC (crsL (edgesS (rs.take k)) y) ∧ Has wr w.heap.size 47 2 (.slice A1 cs.length cap1) cs.length (cs.flatMap ptC) ∧ Below w.heap.size w wr) (fun _ i _ _ _ _ => rs.length - (intOf i).toNat)
  case atStart => exact ⟨0, _, 0, [], Nat.zero_le _, rfl, rfl, by simp [edgesS, crsL, srtC], O.out, E.out⟩
  case round =>
    obtain ⟨k, A1, cap1, cs, hk, rfl, rfl, hcs, ho, hbw⟩ := hrel
    clear O E
    have O := Lib.hid ho
    have E := Lib.hid hbw
    have Hcs := Lib.hid hcs
    clear ho hbw hcs
    by_cases hlt : k < rs.length
    · obtain ⟨b, off, hA, _, hc⟩ := H.out.rgs (by omega)
      subst hA
      obtain ⟨A', cap', cr, hp, hle, hmx⟩ := hc k hlt
      have hps := (Hr.out _ (List.getElem_mem hlt)).2
      have hck : corners (rs.take k) ≤ 200 := Nat.le_trans (corners_tkC rs k) hcr
      have Hel : Hid ((edgesS (rs.take k)).length ≤ 200) := Lib.hid (by rw [edgesS_len]; exact hck)
      have Hn := Lib.hid (edgesS_snoc (rs.take k) rs[k])
      rw [← List.take_succ_eq_append_getElem hlt] at Hn
      have Hp := Lib.hid hp
      have Cr := Lib.hid cr
      have h40 := psB_len hps
      clear hc hp cr hck
      generalize rs[k] = r at *
      generalize edgesS (rs.take k) = es at *
      have Hps := Lib.hid hps
      clear hps
      obtain ⟨wo, hwo⟩ : ∃ wo : World, wo = wr := ⟨_, rfl⟩
      subst hwo
      have v1 : (k : Int) < (rs.length : Int) := by omega
      have v1d : decide ((k : Int) < (rs.length : Int)) = true := decide_eq_true v1
      go_wp2_with fail
      go_loopw [5, 7, 8, 9] (fun o i _ _ wr => ∃ (j : Nat) (A1 : Option Addr) (cap1 : Nat) (fs : List Pt), j ≤ r.length ∧ i = .int .i64 j ∧ o = .slice A1 fs.length cap1 ∧ fs = srtC (crsL (es ++ (edgesL r).take j) y) ∧ Has wr w.heap.size 47 2 (.slice A1 fs.length cap1) fs.length (fs.flatMap ptC) ∧ Below w.heap.size w wr) (fun _ i _ _ _ => r.length - (intOf i).toNat)
      case atStart => exact ⟨0, A1, cap1, cs, Nat.zero_le _, rfl, rfl, by rw [List.take_zero, List.append_nil]; exact Hcs.out, O.out, E.out⟩
      case round =>
        obtain ⟨j, A2, cap2, fs, hj, rfl, rfl, hfs, ho, hbw⟩ := hrel
        clear O E
        have O := Lib.hid ho
        have E := Lib.hid hbw
        have hzr : w.heap.size ≤ wr.heap.size := hbw.size
        have hfl : fs.length ≤ 240 := by
          rw [hfs, srtC_len]
          refine Nat.le_trans (crsL_len _ _) ?_
          rw [List.length_append, List.length_take]
          have := Hel.out
          omega
        have Hfs := Lib.hid hfs
        have Hsr : Hid (SrtC fs) := Lib.hid (by rw [hfs]; exact srtC_srt _)
        clear ho hbw hfs
        by_cases hjl : j < r.length
        · obtain ⟨m, hm⟩ : ∃ m, m = (j + 1) % r.length := ⟨_, rfl⟩
          have hml : m < r.length := by rw [hm]; exact Nat.mod_lt _ (by omega)
          obtain ⟨b1, off1, hA, _, hc⟩ := (Hp.out.ext ptR_stab E.out).pts (by omega)
          subst hA
          obtain ⟨cx, cy⟩ := hc j hjl
          obtain ⟨dx, dy⟩ := hc m hml
          have Hst : Hid (srtC (crsL (es ++ (edgesL r).take (j + 1)) y) = srtC (crsL ((es ++ (edgesL r).take j) ++ [(r[j], r[m])]) y)) := Lib.hid (by
            have h1 := edgesL_get hjl
            rw [List.take_succ_eq_append_getElem (by rw [edgesL_len]; exact hjl), h1, ← List.append_assoc]
            simp only [hm])
          have hne : ¬ r = [] := by intro hh; subst hh; simp at hjl
          have g1 : IntKind.i64.wrap ((j : Int) + 1) = (j : Int) + 1 := IntWalk.i64_in _ (by omega)
          have g2 : Int.tmod ((j : Int) + 1) (r.length : Int) = (m : Int) := by rw [hm]; exact tmod_nat1 j r.length 1
          have hq1 := crd2_of Hps.out (List.getElem_mem hjl)
          have hq2 := crd2_of Hps.out (List.getElem_mem hml)
          have KF := Lib.hid (fun W => c_firstSample r[j] r[m] y W hq1 hq2 ⟨hy1, hy2⟩)
          obtain ⟨N, hN⟩ : ∃ N, frst y r[j] r[m] = N := ⟨_, rfl⟩
          rw [hN] at KF
          have HN := Lib.hid hN
          obtain ⟨⟨q1, q2⟩, q3, q4⟩ := hq1
          obtain ⟨⟨q5, q6⟩, q7, q8⟩ := hq2
          have G := Lib.hid (And.intro g1 g2)
          obtain ⟨u1, u2⟩ : (0 : Int) ≤ (m : Int) ∧ (m : Int) < (r.length : Int) := by omega
          have Cx := Lib.hid cx
          have Cy := Lib.hid cy
          have Dx := Lib.hid dx
          have Dy := Lib.hid dy
          have Cs := Lib.hid (Cls.cell E.out Cr.out)
          clear hc g1 g2 hm cx cy dx dy hN
          generalize r[j] = p at *
          generalize r[m] = q at *
          obtain ⟨ax, ay⟩ := p
          obtain ⟨bx, bz⟩ := q
          dsimp only at q1 q2 q3 q4 q5 q6 q7 q8
          have v2 : (j : Int) < (r.length : Int) := by omega
          have cCx := Cx.out
          have cCy := Cy.out
          have cDx := Dx.out
          have cDy := Dy.out
          have cCs := Cs.out
          go_wp2_with fail
          clear cCx cCy cDx cDy cCs
          first | refine gen_calls ?_ | refine gen_code ?_ | refine gen_list ?_
          intro w2 hW
          obtain ⟨hb, hP⟩ := new1 hW
          clear hW
          replace E := Lib.hid (Ext.trans E.out hb)
          replace O := Lib.hid (own_ext O.out hb)
          replace Cx := Lib.hid (Cls.cell hb Cx.out)
          replace Cy := Lib.hid (Cls.cell hb Cy.out)
          replace Dx := Lib.hid (Cls.cell hb Dx.out)
          replace Dy := Lib.hid (Cls.cell hb Dy.out)
          replace Cs := Lib.hid (Cls.cell hb Cs.out)
          clear hb
          have P := Lib.hid hP
          have lP := P.out.lt
          clear hP
          have cCx := Cx.out
          have cCy := Cy.out
          have cDx := Dx.out
          have cDy := Dy.out
          have cCs := Cs.out
          clear cCx cCy cDx cDy cCs
          have cCx := Cx.out
          have cCy := Cy.out
          have cDx := Dx.out
          have cDy := Dy.out
          have cCs := Cs.out
          have p0 := P.out.cell_of (i := 0) rfl
          have p1 := P.out.cell_of (i := 1) rfl
          obtain ⟨g1, g2⟩ := G.out
          refine wp_region_calm [0,1,2,3,4,5,6,7,8,9,10,11,12,13] [14,15] (by kernel_rfl) (by kernel_rfl) ?_
          (refine calm_yes rfl rfl (fun w' hC => (by have cCx := hC.cell cCx; have cCy := hC.cell cCy; have cDx := hC.cell cDx; have cDy := hC.cell cDy; have cCs := hC.cell cCs; have p0 := hC.cell p0; have p1 := hC.cell p1; go_simp; rfl)) (fun K hK => ?_); go_simp; refine hK _ ?_; clear hK K)
          (refine calm_yes rfl rfl (fun w' hC => (by have cCx := hC.cell cCx; have cCy := hC.cell cCy; have cDx := hC.cell cDx; have cDy := hC.cell cDy; have cCs := hC.cell cCs; have p0 := hC.cell p0; have p1 := hC.cell p1; go_simp; rfl)) (fun K hK => ?_); go_simp; refine hK _ ?_; clear hK K)
          (refine calm_yes rfl rfl (fun w' hC => (by have cCx := hC.cell cCx; have cCy := hC.cell cCy; have cDx := hC.cell cDx; have cDy := hC.cell cDy; have cCs := hC.cell cCs; have p0 := hC.cell p0; have p1 := hC.cell p1; go_simp; rfl)) (fun K hK => ?_); go_simp; refine hK _ ?_; clear hK K)
          (refine calm_yes rfl rfl (fun w' hC => (by have cCx := hC.cell cCx; have cCy := hC.cell cCy; have cDx := hC.cell cDx; have cDy := hC.cell cDy; have cCs := hC.cell cCs; have p0 := hC.cell p0; have p1 := hC.cell p1; go_simp; rfl)) (fun K hK => ?_); go_simp; refine hK _ ?_; clear hK K)
          (refine calm_yes rfl rfl (fun w' hC => (by have cCx := hC.cell cCx; have cCy := hC.cell cCy; have cDx := hC.cell cDx; have cDy := hC.cell cDy; have cCs := hC.cell cCs; have p0 := hC.cell p0; have p1 := hC.cell p1; go_simp; rfl)) (fun K hK => ?_); go_simp; refine hK _ ?_; clear hK K)
          (refine calm_yes rfl rfl (fun w' hC => (by have cCx := hC.cell cCx; have cCy := hC.cell cCy; have cDx := hC.cell cDx; have cDy := hC.cell cDy; have cCs := hC.cell cCs; have p0 := hC.cell p0; have p1 := hC.cell p1; go_simp; rfl)) (fun K hK => ?_); go_simp; refine hK _ ?_; clear hK K)
          (refine calm_yes rfl rfl (fun w' hC => (by have cCx := hC.cell cCx; have cCy := hC.cell cCy; have cDx := hC.cell cDx; have cDy := hC.cell cDy; have cCs := hC.cell cCs; have p0 := hC.cell p0; have p1 := hC.cell p1; go_simp; rfl)) (fun K hK => ?_); go_simp; refine hK _ ?_; clear hK K)
          (refine calm_yes rfl rfl (fun w' hC => (by have cCx := hC.cell cCx; have cCy := hC.cell cCy; have cDx := hC.cell cDx; have cDy := hC.cell cDy; have cCs := hC.cell cCs; have p0 := hC.cell p0; have p1 := hC.cell p1; go_simp; rfl)) (fun K hK => ?_); go_simp; refine hK _ ?_; clear hK K)
          (refine calm_yes rfl rfl (fun w' hC => (by have cCx := hC.cell cCx; have cCy := hC.cell cCy; have cDx := hC.cell cDx; have cDy := hC.cell cDy; have cCs := hC.cell cCs; have p0 := hC.cell p0; have p1 := hC.cell p1; go_simp; rfl)) (fun K hK => ?_); go_simp; refine hK _ ?_; clear hK K)
          (refine calm_yes rfl rfl (fun w' hC => (by have cCx := hC.cell cCx; have cCy := hC.cell cCy; have cDx := hC.cell cDx; have cDy := hC.cell cDy; have cCs := hC.cell cCs; have p0 := hC.cell p0; have p1 := hC.cell p1; go_simp; rfl)) (fun K hK => ?_); go_simp; refine hK _ ?_; clear hK K)
          (refine calm_yes rfl rfl (fun w' hC => (by have cCx := hC.cell cCx; have cCy := hC.cell cCy; have cDx := hC.cell cDx; have cDy := hC.cell cDy; have cCs := hC.cell cCs; have p0 := hC.cell p0; have p1 := hC.cell p1; go_simp; rfl)) (fun K hK => ?_); go_simp; refine hK _ ?_; clear hK K)
          (refine calm_yes rfl rfl (fun w' hC => (by have cCx := hC.cell cCx; have cCy := hC.cell cCy; have cDx := hC.cell cDx; have cDy := hC.cell cDy; have cCs := hC.cell cCs; have p0 := hC.cell p0; have p1 := hC.cell p1; go_simp; rfl)) (fun K hK => ?_); go_simp; refine hK _ ?_; clear hK K)
          (refine calm_yes rfl rfl (fun w' hC => (by have cCx := hC.cell cCx; have cCy := hC.cell cCy; have cDx := hC.cell cDx; have cDy := hC.cell cDy; have cCs := hC.cell cCs; have p0 := hC.cell p0; have p1 := hC.cell p1; go_simp; rfl)) (fun K hK => ?_); go_simp; refine hK _ ?_; clear hK K)
          (refine calm_yes rfl rfl (fun w' hC => (by have cCx := hC.cell cCx; have cCy := hC.cell cCy; have cDx := hC.cell cDx; have cDy := hC.cell cDy; have cCs := hC.cell cCs; have p0 := hC.cell p0; have p1 := hC.cell p1; go_simp; rfl)) (fun K hK => ?_); go_simp; refine hK _ ?_; clear hK K)
          refine calm_nil (fun wa hCa => ?_)
          refine late_keep rfl rfl hCa (fun wbw3 hxb hCb K hK => ?_)
          go_simp
          refine hK _ _ (Below.alloc hCb hCb.size _) (fun _ => ?_)
          clear hK K
          clear cCx cCy cDx cDy cCs p0 p1
          refine late_free (by kernel_rfl) rfl rfl (fun wd hxd K hK => ?_)
          have hZ := (Row.new wbw3 58 [.int .i64 0, .int .i64 0]).ext hxd
          have Eb := Ext.trans (ext_cls hCa) hxb
          have hlbw3 := Eb.size
          have e0 := hZ.cell_of (i := 0) rfl
          have ze0 := hZ.frozen 0
          have e1 := hZ.cell_of (i := 1) rfl
          have ze1 := hZ.frozen 1
          go_simp
          refine hK _ _ ?_
          clear hK K e0 ze0 e1 ze1
          refine late_nil (fun w3 hxz => ?_)
          have hR : Row w3 wbw3.heap.size 58 [.int .i64 bx, .int .i64 bz] := ((hZ.set_ 0 _).set_ 1 _).ext hxz
          have EN := Ext.trans (((Ext.trans (Ext.trans Eb (ext_alloc _ _)) hxd).setCell (p := ⟨wbw3.heap.size, 0, none⟩) (by simp; omega) _).setCell (p := ⟨wbw3.heap.size, 1, none⟩) (by simp; omega) _) hxz
          replace E := Lib.hid (Ext.trans E.out EN)
          replace O := Lib.hid (own_ext O.out EN)
          replace Cx := Lib.hid (Cls.cell EN Cx.out)
          replace Cy := Lib.hid (Cls.cell EN Cy.out)
          replace Dx := Lib.hid (Cls.cell EN Dx.out)
          replace Dy := Lib.hid (Cls.cell EN Dy.out)
          replace Cs := Lib.hid (Cls.cell EN Cs.out)
          replace P := Lib.hid (P.out.ext EN)
          have lP := P.out.lt
          have Q := Lib.hid hR
          have lQ := Q.out.lt
          clear hR EN hZ Eb hCa hCb hxb hxd hxz
          have cCx := Cx.out
          have cCy := Cy.out
          have cDx := Dx.out
          have cDy := Dy.out
          have cCs := Cs.out
          have p0 := P.out.cell_of (i := 0) rfl
          have p1 := P.out.cell_of (i := 1) rfl
          clear cCx cCy cDx cDy cCs p0 p1
          have p0 := P.out.cell_of (i := 0) rfl
          have p1 := P.out.cell_of (i := 1) rfl
          have q0 := Q.out.cell_of (i := 0) rfl
          have q1 := Q.out.cell_of (i := 1) rfl
          clear g1 g2 Cx Cy Dx Dy Cs
          have hz3 : w.heap.size ≤ w3.heap.size := E.out.size
          by_cases c0 : ay = bz
          · have Hno : Hid (dirE y (ax, ay) (bx, bz) = 0) := Lib.hid (dir_no (.inl c0))
            have c0b : (ay == bz) = true := by simp [c0]
            clear c0
            have Hn : Hid (fs = srtC (crsL (es ++ (edgesL r).take (j + 1)) y)) := Lib.hid (by rw [Hst.out, crs_no Hno.out]; exact Hfs.out)
            clear Hno
            go_wp2
            go_roundw
            case rel => exact ⟨j + 1, A2, cap2, fs, by omega, by go_num, rfl, Hn.out, O.out, E.out⟩
            case measure => simp [intOf]; omega
          · have c0b : (ay == bz) = false := by simp [c0]
            obtain ⟨X2, hX2⟩ : ∃ X, max ay bz = X := ⟨_, rfl⟩
            obtain ⟨N2, hN2⟩ : ∃ X, min ay bz = X := ⟨_, rfl⟩
            have mx2 : (if ay < bz then bz else ay) = X2 := by rw [← hX2]; split <;> omega
            have mn2 : (if bz < ay then bz else ay) = N2 := by rw [← hN2]; split <;> omega
            have hX3 : -2000 ≤ X2 ∧ X2 ≤ 2000 := by omega
            obtain ⟨hX3, hX4⟩ := hX3
            obtain ⟨d, hd⟩ : ∃ d, inB y N2 (X2 - 1) = d := ⟨_, rfl⟩
            have Hd : Hid (inB y (min ay bz) (max ay bz - 1) = d) := Lib.hid (by rw [hX2, hN2]; exact hd)
            have Hdd0 := Lib.hid hd
            clear hX2 hN2 hd
            go_wp2_with fail
            refine (c_inRange y N2 (X2 - 1) _).mono ?_
            rw [Hdd0.out]
            rintro e w' ⟨rfl, rfl⟩
            cases d
            · have Hno : Hid (dirE y (ax, ay) (bx, bz) = 0) := Lib.hid (dir_no (.inr Hd.out))
              have Hn : Hid (fs = srtC (crsL (es ++ (edgesL r).take (j + 1)) y)) := Lib.hid (by rw [Hst.out, crs_no Hno.out]; exact Hfs.out)
              clear Hno
              go_wp2
              go_roundw
              case rel => exact ⟨j + 1, A2, cap2, fs, by omega, by go_num, rfl, Hn.out, O.out, E.out⟩
              case measure => simp [intOf]; omega
            · clear mx2 mn2 hX3 hX4 Hdd0
              rcases dir_yes Hd.out with ⟨e1, e2⟩ | ⟨e1, e2⟩
              · have Hdd : Hid (dirE y (ax, ay) (bx, bz) = 1) := Lib.hid (by unfold dirE; rw [if_pos ⟨e1, e2⟩])
                have z1 : ay < bz := by omega
                have z1d : decide (ay < bz) = true := decide_eq_true z1
                have z2 : ¬ bz < ay := by omega
                have z2d : decide (bz < ay) = false := decide_eq_false z2
                have wr1 : IntKind.i64.wrap (1 : Int) = 1 := by decide
                clear e1 e2 c0
                clear p0 p1 q0 q1
                have p0 := P.out.cell_of (i := 0) rfl
                have p1 := P.out.cell_of (i := 1) rfl
                have q0 := Q.out.cell_of (i := 0) rfl
                have q1 := Q.out.cell_of (i := 1) rfl
                go_wp2_with fail
                refine wp_region_calm [0,1,2,3,4,5,6,7,8,9,10,11,12,13,14,15,16,17,18] [19,20] (by kernel_rfl) (by kernel_rfl) ?_
                iterate 4 ((refine calm_yes rfl rfl (fun w' hC => (by have p0 := hC.cell p0; have p1 := hC.cell p1; have q0 := hC.cell q0; have q1 := hC.cell q1; go_simp; rfl)) (fun K hK => ?_); go_simp; refine hK _ ?_; clear hK K))
                (apply calm_call rfl rfl rfl Try.func37 (by kernel_rfl) rfl (by go_simp; rfl); exact (fun w' hC => KF.out w'); intro K hK; go_simp; refine hK _ ?_; clear hK K)
                iterate 5 ((refine calm_yes rfl rfl (fun w' hC => (by have p0 := hC.cell p0; have p1 := hC.cell p1; have q0 := hC.cell q0; have q1 := hC.cell q1; go_simp; rfl)) (fun K hK => ?_); go_simp; refine hK _ ?_; clear hK K))
                (apply calm_call rfl rfl rfl Try.func38 (by kernel_rfl) rfl (by go_simp; rfl); exact (fun w' hC => ext_of_same (c_toInt _ w')); intro K hK; go_simp; refine hK _ ?_; clear hK K)
                iterate 5 ((refine calm_yes rfl rfl (fun w' hC => (by have p0 := hC.cell p0; have p1 := hC.cell p1; have q0 := hC.cell q0; have q1 := hC.cell q1; go_simp; rfl)) (fun K hK => ?_); go_simp; refine hK _ ?_; clear hK K))
                (apply calm_call rfl rfl rfl Try.func38 (by kernel_rfl) rfl (by go_simp; rfl); exact (fun w' hC => ext_of_same (c_toInt _ w')); intro K hK; go_simp; refine hK _ ?_; clear hK K)
                iterate 2 ((refine calm_yes rfl rfl (fun w' hC => (by skip; go_simp; rfl)) (fun K hK => ?_); go_simp; refine hK _ ?_; clear hK K))
                refine calm_nil (fun wa hCa => ?_)
                clear p0 p1 q0 q1
                have Ea : Ext w3 wa := ext_cls hCa
                refine late_fn rfl rfl rfl Try.func36 (by kernel_rfl) rfl (by go_simp) (fun wb hxb KK hK => (c_place A2 cap2 fs (((N : Nat) : Int), 1) wb (own_in (R := ptR) (enc := ptC) ptC_len (by decide) (own_ext O.out (Ext.trans Ea hxb)) (fun _ => rfl)) Hsr.out (by omega)).mono ?_)
                rintro e wc ⟨A3, cap3, rfl, ho, hb⟩
                replace ho := ho.rebase (B' := w.heap.size) (Nat.le_trans E.out.size (Nat.le_trans Ea.size hxb.size))
                replace Ea := Ext.trans (Ext.trans Ea hxb) hb
                replace hCa := Cls.ext (Cls.ext hCa hxb) hb
                refine ⟨_, rfl, hK _ _ ⟨fun _ => hCa, ?_⟩⟩
                clear hK KK hxb hb
                refine late_free (by kernel_rfl) rfl rfl (fun wf hxf KK hK => ?_)
                go_simp
                refine hK _ _ ?_
                clear hK KK
                refine late_nil (fun wz hxz => ?_)
                replace O := Lib.hid (own_ext ho (Ext.trans hxf hxz))
                replace E := Lib.hid (Ext.trans E.out (Ext.trans Ea (Ext.trans hxf hxz)))
                clear ho Ea hCa hxf hxz P Q lP lQ
                have Hn : Hid (srtC (((N : Nat), 1) :: fs) = srtC (crsL (es ++ (edgesL r).take (j + 1)) y)) := Lib.hid (by rw [Hst.out, crs_yes Hdd.out (by decide), HN.out, ← Hfs.out])
                go_wp2
                go_roundw
                case rel => exact ⟨j + 1, A3, cap3, _, by omega, by go_num, rfl, Hn.out, O.out, E.out⟩
                case measure => simp [intOf]; omega
              · have Hdd : Hid (dirE y (ax, ay) (bx, bz) = -1) := Lib.hid (by unfold dirE; rw [if_neg (by dsimp only; omega), if_pos ⟨e1, e2⟩])
                have z1 : ¬ ay < bz := by omega
                have z1d : decide (ay < bz) = false := decide_eq_false z1
                have z2 : bz < ay := by omega
                have z2d : decide (bz < ay) = true := decide_eq_true z2
                have wr1 : IntKind.i64.wrap (-1 : Int) = -1 := by decide
                clear e1 e2 c0
                clear p0 p1 q0 q1
                have p0 := P.out.cell_of (i := 0) rfl
                have p1 := P.out.cell_of (i := 1) rfl
                have q0 := Q.out.cell_of (i := 0) rfl
                have q1 := Q.out.cell_of (i := 1) rfl
                go_wp2_with fail
                refine wp_region_calm [0,1,2,3,4,5,6,7,8,9,10,11,12,13,14,15,16,17,18] [19,20] (by kernel_rfl) (by kernel_rfl) ?_
                iterate 4 ((refine calm_yes rfl rfl (fun w' hC => (by have p0 := hC.cell p0; have p1 := hC.cell p1; have q0 := hC.cell q0; have q1 := hC.cell q1; go_simp; rfl)) (fun K hK => ?_); go_simp; refine hK _ ?_; clear hK K))
                (apply calm_call rfl rfl rfl Try.func37 (by kernel_rfl) rfl (by go_simp; rfl); exact (fun w' hC => KF.out w'); intro K hK; go_simp; refine hK _ ?_; clear hK K)
                iterate 5 ((refine calm_yes rfl rfl (fun w' hC => (by have p0 := hC.cell p0; have p1 := hC.cell p1; have q0 := hC.cell q0; have q1 := hC.cell q1; go_simp; rfl)) (fun K hK => ?_); go_simp; refine hK _ ?_; clear hK K))
                (apply calm_call rfl rfl rfl Try.func38 (by kernel_rfl) rfl (by go_simp; rfl); exact (fun w' hC => ext_of_same (c_toInt _ w')); intro K hK; go_simp; refine hK _ ?_; clear hK K)
                iterate 5 ((refine calm_yes rfl rfl (fun w' hC => (by have p0 := hC.cell p0; have p1 := hC.cell p1; have q0 := hC.cell q0; have q1 := hC.cell q1; go_simp; rfl)) (fun K hK => ?_); go_simp; refine hK _ ?_; clear hK K))
                (apply calm_call rfl rfl rfl Try.func38 (by kernel_rfl) rfl (by go_simp; rfl); exact (fun w' hC => ext_of_same (c_toInt _ w')); intro K hK; go_simp; refine hK _ ?_; clear hK K)
                iterate 2 ((refine calm_yes rfl rfl (fun w' hC => (by skip; go_simp; rfl)) (fun K hK => ?_); go_simp; refine hK _ ?_; clear hK K))
                refine calm_nil (fun wa hCa => ?_)
                clear p0 p1 q0 q1
                have Ea : Ext w3 wa := ext_cls hCa
                refine late_fn rfl rfl rfl Try.func36 (by kernel_rfl) rfl (by go_simp) (fun wb hxb KK hK => (c_place A2 cap2 fs (((N : Nat) : Int), -1) wb (own_in (R := ptR) (enc := ptC) ptC_len (by decide) (own_ext O.out (Ext.trans Ea hxb)) (fun _ => rfl)) Hsr.out (by omega)).mono ?_)
                rintro e wc ⟨A3, cap3, rfl, ho, hb⟩
                replace ho := ho.rebase (B' := w.heap.size) (Nat.le_trans E.out.size (Nat.le_trans Ea.size hxb.size))
                replace Ea := Ext.trans (Ext.trans Ea hxb) hb
                replace hCa := Cls.ext (Cls.ext hCa hxb) hb
                refine ⟨_, rfl, hK _ _ ⟨fun _ => hCa, ?_⟩⟩
                clear hK KK hxb hb
                refine late_free (by kernel_rfl) rfl rfl (fun wf hxf KK hK => ?_)
                go_simp
                refine hK _ _ ?_
                clear hK KK
                refine late_nil (fun wz hxz => ?_)
                replace O := Lib.hid (own_ext ho (Ext.trans hxf hxz))
                replace E := Lib.hid (Ext.trans E.out (Ext.trans Ea (Ext.trans hxf hxz)))
                clear ho Ea hCa hxf hxz P Q lP lQ
                have Hn : Hid (srtC (((N : Nat), -1) :: fs) = srtC (crsL (es ++ (edgesL r).take (j + 1)) y)) := Lib.hid (by rw [Hst.out, crs_yes Hdd.out (by decide), HN.out, ← Hfs.out])
                go_wp2
                go_roundw
                case rel => exact ⟨j + 1, A3, cap3, _, by omega, by go_num, rfl, Hn.out, O.out, E.out⟩
                case measure => simp [intOf]; omega
        · have hj' : j = r.length := by omega
          have Hf : Hid (fs = srtC (crsL (edgesS (rs.take (k + 1))) y)) := Lib.hid (by rw [Hfs.out, Hn.out, hj', List.take_of_length_le (by rw [edgesL_len]; exact Nat.le_refl _)])
          clear hj'
          have cr := Cls.cell E.out Cr.out
          have v2d : decide ((j : Int) < (r.length : Int)) = false := decide_eq_false (by omega)
          go_wp2
          go_roundw
          case rel => exact ⟨k + 1, A2, cap2, fs, by omega, by go_num, rfl, Hf.out, O.out, E.out⟩
          case measure => simp [intOf]; omega
    · have hk' : k = rs.length := by omega
      have Hf : Hid (cs = srtC (crsL (edgesS rs) y)) := Lib.hid (by rw [Hcs.out, hk', List.take_length])
      clear hk'
      have v1d : decide ((k : Int) < (rs.length : Int)) = false := decide_eq_false (by omega)
      go_wp2
      go_ret
      rw [← Hf.out]
      exact ⟨A1, cap1, rfl, O.out, E.out⟩
end Go.Proofs.Yteknlifgejpjfaa
