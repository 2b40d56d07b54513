/-
  The edges that touch a tile: the reference's walk.
-/
import Derived.Test.YtefbebikbdigfaaTileW
namespace Go.Proofs.Ytefbebikbdigfaa
open Go Go.RowKit Reg
attribute [local go_sem] calmAt calmUpon
theorem touchL_snoc (rs : List Rg) (r : Rg) (bx : Bx4) : touchL (rs ++ [r]) bx = touchL rs bx ++ (edgesL r).filter (fun e => tchB bx e.1 e.2) := by
  unfold touchL; rw [edgesS_snoc, List.filter_append]
theorem touchL_len (rs : List Rg) (bx : Bx4) : (touchL rs bx).length ≤ corners rs := by
  unfold touchL
  have := List.length_filter_le (fun e : Ed => tchB bx e.1 e.2) (edgesS rs)
  rw [edgesS_len] at this
  exact this
theorem corners_tk (rs : List Rg) (k : Nat) : corners (rs.take k) ≤ corners rs := by
  conv => rhs; rw [← List.take_append_drop k rs]
  rw [corners_append]; omega
/-- Edges returned, in a row of their own. -/
def RetEd (w : World) (es : List Ed) (e : Ending) (w' : World) : Prop := ∃ A' cap', e = .returned (.slice A' es.length cap') ∧ Has w' w.heap.size 66 4 (.slice A' es.length cap') es.length (es.flatMap edC) ∧ Below w.heap.size w w'
theorem RetEd.none {w w' : World} {es : List Ed} (h : es = []) (hb : Below w.heap.size w w') : RetEd w es (.returned (.slice Option.none 0 0)) w' := by
  subst h; exact ⟨.none, 0, rfl, own_nil _ _ _ _, hb⟩
set_option maxRecDepth 100000 in
set_option maxHeartbeats 16000000 in
theorem c_touched (A : Option Addr) (cap : Nat) (rs : List Rg) (l t rt bt : Int) (w : World) (h : Rgs w A rs) (hv : rgsB rs = true) (hl : 0 ≤ l ∧ l ≤ 12) (ht : 0 ≤ t ∧ t ≤ 12) (hrt : 0 ≤ rt ∧ rt ≤ 12) (hbt : 0 ≤ bt ∧ bt ≤ 12) :
    Calls Try.prog 36 #[.slice A rs.length cap, bx4V (l, t, rt, bt)] w fun e w' => RetEd w (touchL rs (l, t, rt, bt)) e w' := by
  have H := Lib.hid h
  have hr := rgsB_iff.1 hv
  have hrl : rs.length ≤ 8 := hr.2.1
  have hcr : corners rs ≤ 200 := hr.2.2
  have Hr := Lib.hid hr.1
  clear h hr
  have E := Lib.hid (Below.refl w.heap.size w)
  go_enter Try.func36, Try.ntmps36
  go_wp2_with fail
  first | refine gen_calls ?_ | refine gen_code ?_ | refine gen_list ?_
  intro w1 hW
  obtain ⟨hb, hB, hZ⟩ := new2 hW
  clear hW
  replace E := Lib.hid (Ext.trans E.out hb)
  clear hb
  have B := Lib.hid hB
  have lB := B.out.lt
  clear hB
  have Z := Lib.hid hZ
  have lZ := Z.out.lt
  clear hZ
  have O := Lib.hid (own_of_row (n := 0) (B := w.heap.size) (sz := 4) Z.out (by omega) rfl (by decide))
  clear Z lZ lB
  go_wp2_with fail
  go_loopw [5, 6, 7, 8, 9, 10, 11, 12, 13] (fun o i _ _ _ _ _ _ _ wr => ∃ (k : Nat) (A1 : Option Addr) (cap1 : Nat) (es : List Ed), k ≤ rs.length ∧ i = .int .i64 k ∧ o = .slice A1 es.length cap1 ∧ es = touchL (rs.take k) (l, t, rt, bt) ∧ Has wr w.heap.size 66 4 (.slice A1 es.length cap1) es.length (es.flatMap edC) ∧ Row wr w.heap.size 56 [.int .i64 l, .int .i64 t, .int .i64 rt, .int .i64 bt] ∧ Below w.heap.size w wr) (fun _ i _ _ _ _ _ _ _ _ => rs.length - (intOf i).toNat)
  case atStart => exact ⟨0, _, 0, [], Nat.zero_le _, rfl, rfl, rfl, O.out, B.out, E.out⟩
  case round =>
    obtain ⟨k, A1, cap1, es, hk, rfl, rfl, hes, ho, hb, hbw⟩ := hrel
    clear O B E
    have O := Lib.hid ho
    have B := Lib.hid hb
    have E := Lib.hid hbw
    have hel : es.length ≤ 200 := by rw [hes]; exact Nat.le_trans (touchL_len _ _) (Nat.le_trans (corners_tk rs k) hcr)
    have Hes := Lib.hid hes
    clear ho hb hbw hes
    by_cases hlt : k < rs.length
    · obtain ⟨b, off, hA, _, hc⟩ := H.out.rgs (by omega)
      subst hA
      obtain ⟨A', cap', cr, hp, hle, hmx⟩ := hc k hlt
      have hps := (Hr.out _ (List.getElem_mem hlt)).2
      have Hn := Lib.hid (touchL_snoc (rs.take k) rs[k] (l, t, rt, bt))
      rw [← List.take_succ_eq_append_getElem hlt, ← Hes.out] at Hn
      have Hp := Lib.hid hp
      have Cr := Lib.hid cr
      have h40 := psB_len hps
      clear hc hp cr
      generalize rs[k] = r at *
      have Hps := Lib.hid hps
      clear hps
      obtain ⟨wo, hwo⟩ : ∃ wo : World, wo = wr := ⟨_, rfl⟩
      subst hwo
      have v1 : (k : Int) < (rs.length : Int) := by omega
      have v1d : decide ((k : Int) < (rs.length : Int)) = true := decide_eq_true v1
      go_wp2_with fail
      go_loopw [5, 7, 8, 9, 10, 11, 12, 13] (fun o i _ _ _ _ _ _ wr => ∃ (j : Nat) (A1 : Option Addr) (cap1 : Nat) (fs : List Ed), j ≤ r.length ∧ i = .int .i64 j ∧ o = .slice A1 fs.length cap1 ∧ fs = es ++ ((edgesL r).take j).filter (fun e => tchB (l, t, rt, bt) e.1 e.2) ∧ Has wr w.heap.size 66 4 (.slice A1 fs.length cap1) fs.length (fs.flatMap edC) ∧ Row wr w.heap.size 56 [.int .i64 l, .int .i64 t, .int .i64 rt, .int .i64 bt] ∧ Below w.heap.size w wr) (fun _ i _ _ _ _ _ _ _ => r.length - (intOf i).toNat)
      case atStart => exact ⟨0, A1, cap1, es, Nat.zero_le _, rfl, rfl, by simp, O.out, B.out, E.out⟩
      case round =>
        obtain ⟨j, A2, cap2, fs, hj, rfl, rfl, hfs, ho, hb, hbw⟩ := hrel
        clear O B E
        have O := Lib.hid ho
        have B := Lib.hid hb
        have E := Lib.hid hbw
        have hzr : w.heap.size ≤ wr.heap.size := hbw.size
        have hfl : fs.length ≤ 240 := by
          rw [hfs, List.length_append]
          have h1 := List.length_filter_le (fun e : Ed => tchB (l, t, rt, bt) e.1 e.2) ((edgesL r).take j)
          rw [List.length_take] at h1
          omega
        have Hfs := Lib.hid hfs
        clear ho hb hbw hfs
        by_cases hjl : j < r.length
        · obtain ⟨m, hm⟩ : ∃ m, m = (j + 1) % r.length := ⟨_, rfl⟩
          have hml : m < r.length := by rw [hm]; exact Nat.mod_lt _ (by omega)
          obtain ⟨b1, off1, hA, _, hc⟩ := (Hp.out.ext ptR_stab E.out).pts (by omega)
          subst hA
          obtain ⟨cx, cy⟩ := hc j hjl
          obtain ⟨dx, dy⟩ := hc m hml
          have Hst : Hid (es ++ ((edgesL r).take (j + 1)).filter (fun e => tchB (l, t, rt, bt) e.1 e.2) = fs ++ (if tchB (l, t, rt, bt) r[j] r[m] then [(r[j], r[m])] else [])) := Lib.hid (by
            have h1 := edgesL_get hjl
            rw [List.take_succ_eq_append_getElem (by rw [edgesL_len]; exact hjl), h1, List.filter_append, ← List.append_assoc, ← Hfs.out]
            simp only [hm, List.filter_cons, List.filter_nil])
          have hne : ¬ r = [] := by intro hh; subst hh; simp at hjl
          have g1 : IntKind.i64.wrap ((j : Int) + 1) = (j : Int) + 1 := IntWalk.i64_in _ (by omega)
          have g2 : Int.tmod ((j : Int) + 1) (r.length : Int) = (m : Int) := by rw [hm]; exact tmod_nat1 j r.length 1
          obtain ⟨⟨q1, q2⟩, q3, q4⟩ := crd2_of Hps.out (List.getElem_mem hjl)
          obtain ⟨⟨q5, q6⟩, q7, q8⟩ := crd2_of Hps.out (List.getElem_mem hml)
          have G := Lib.hid (And.intro g1 g2)
          obtain ⟨u1, u2⟩ : (0 : Int) ≤ (m : Int) ∧ (m : Int) < (r.length : Int) := by omega
          have Cx := Lib.hid cx
          have Cy := Lib.hid cy
          have Dx := Lib.hid dx
          have Dy := Lib.hid dy
          have Cs := Lib.hid (Cls.cell E.out Cr.out)
          clear hc g1 g2 hm cx cy dx dy
          generalize r[j] = p at *
          generalize r[m] = q at *
          obtain ⟨ax, ay⟩ := p
          obtain ⟨bx, bz⟩ := q
          dsimp only at q1 q2 q3 q4 q5 q6 q7 q8
          have v2 : (j : Int) < (r.length : Int) := by omega
          have cCx := Cx.out
          have cCy := Cy.out
          have cDx := Dx.out
          have cDy := Dy.out
          have cCs := Cs.out
          go_wp2_with fail
          clear cCx cCy cDx cDy cCs
          first | refine gen_calls ?_ | refine gen_code ?_ | refine gen_list ?_
          intro w2 hW
          obtain ⟨hb, hP⟩ := new1 hW
          clear hW
          replace E := Lib.hid (Ext.trans E.out hb)
          replace O := Lib.hid (own_ext O.out hb)
          replace B := Lib.hid (B.out.ext hb)
          have lB := B.out.lt
          replace Cx := Lib.hid (Cls.cell hb Cx.out)
          replace Cy := Lib.hid (Cls.cell hb Cy.out)
          replace Dx := Lib.hid (Cls.cell hb Dx.out)
          replace Dy := Lib.hid (Cls.cell hb Dy.out)
          replace Cs := Lib.hid (Cls.cell hb Cs.out)
          clear hb
          have P := Lib.hid hP
          have lP := P.out.lt
          clear hP
          have cCx := Cx.out
          have cCy := Cy.out
          have cDx := Dx.out
          have cDy := Dy.out
          have cCs := Cs.out
          clear cCx cCy cDx cDy cCs
          have cCx := Cx.out
          have cCy := Cy.out
          have cDx := Dx.out
          have cDy := Dy.out
          have cCs := Cs.out
          have p0 := P.out.cell_of (i := 0) rfl
          have p1 := P.out.cell_of (i := 1) rfl
          obtain ⟨g1, g2⟩ := G.out
          refine wp_region_calm [0,1,2,3,4,5,6,7,8,9,10,11,12,13] [14,15] (by kernel_rfl) (by kernel_rfl) ?_
          (refine calm_yes rfl rfl (fun w' hC => (by have cCx := hC.cell cCx; have cCy := hC.cell cCy; have cDx := hC.cell cDx; have cDy := hC.cell cDy; have cCs := hC.cell cCs; have p0 := hC.cell p0; have p1 := hC.cell p1; go_simp; rfl)) (fun K hK => ?_); go_simp; refine hK _ ?_; clear hK K)
          (refine calm_yes rfl rfl (fun w' hC => (by have cCx := hC.cell cCx; have cCy := hC.cell cCy; have cDx := hC.cell cDx; have cDy := hC.cell cDy; have cCs := hC.cell cCs; have p0 := hC.cell p0; have p1 := hC.cell p1; go_simp; rfl)) (fun K hK => ?_); go_simp; refine hK _ ?_; clear hK K)
          (refine calm_yes rfl rfl (fun w' hC => (by have cCx := hC.cell cCx; have cCy := hC.cell cCy; have cDx := hC.cell cDx; have cDy := hC.cell cDy; have cCs := hC.cell cCs; have p0 := hC.cell p0; have p1 := hC.cell p1; go_simp; rfl)) (fun K hK => ?_); go_simp; refine hK _ ?_; clear hK K)
          (refine calm_yes rfl rfl (fun w' hC => (by have cCx := hC.cell cCx; have cCy := hC.cell cCy; have cDx := hC.cell cDx; have cDy := hC.cell cDy; have cCs := hC.cell cCs; have p0 := hC.cell p0; have p1 := hC.cell p1; go_simp; rfl)) (fun K hK => ?_); go_simp; refine hK _ ?_; clear hK K)
          (refine calm_yes rfl rfl (fun w' hC => (by have cCx := hC.cell cCx; have cCy := hC.cell cCy; have cDx := hC.cell cDx; have cDy := hC.cell cDy; have cCs := hC.cell cCs; have p0 := hC.cell p0; have p1 := hC.cell p1; go_simp; rfl)) (fun K hK => ?_); go_simp; refine hK _ ?_; clear hK K)
          (refine calm_yes rfl rfl (fun w' hC => (by have cCx := hC.cell cCx; have cCy := hC.cell cCy; have cDx := hC.cell cDx; have cDy := hC.cell cDy; have cCs := hC.cell cCs; have p0 := hC.cell p0; have p1 := hC.cell p1; go_simp; rfl)) (fun K hK => ?_); go_simp; refine hK _ ?_; clear hK K)
          (refine calm_yes rfl rfl (fun w' hC => (by have cCx := hC.cell cCx; have cCy := hC.cell cCy; have cDx := hC.cell cDx; have cDy := hC.cell cDy; have cCs := hC.cell cCs; have p0 := hC.cell p0; have p1 := hC.cell p1; go_simp; rfl)) (fun K hK => ?_); go_simp; refine hK _ ?_; clear hK K)
          (refine calm_yes rfl rfl (fun w' hC => (by have cCx := hC.cell cCx; have cCy := hC.cell cCy; have cDx := hC.cell cDx; have cDy := hC.cell cDy; have cCs := hC.cell cCs; have p0 := hC.cell p0; have p1 := hC.cell p1; go_simp; rfl)) (fun K hK => ?_); go_simp; refine hK _ ?_; clear hK K)
          (refine calm_yes rfl rfl (fun w' hC => (by have cCx := hC.cell cCx; have cCy := hC.cell cCy; have cDx := hC.cell cDx; have cDy := hC.cell cDy; have cCs := hC.cell cCs; have p0 := hC.cell p0; have p1 := hC.cell p1; go_simp; rfl)) (fun K hK => ?_); go_simp; refine hK _ ?_; clear hK K)
          (refine calm_yes rfl rfl (fun w' hC => (by have cCx := hC.cell cCx; have cCy := hC.cell cCy; have cDx := hC.cell cDx; have cDy := hC.cell cDy; have cCs := hC.cell cCs; have p0 := hC.cell p0; have p1 := hC.cell p1; go_simp; rfl)) (fun K hK => ?_); go_simp; refine hK _ ?_; clear hK K)
          (refine calm_yes rfl rfl (fun w' hC => (by have cCx := hC.cell cCx; have cCy := hC.cell cCy; have cDx := hC.cell cDx; have cDy := hC.cell cDy; have cCs := hC.cell cCs; have p0 := hC.cell p0; have p1 := hC.cell p1; go_simp; rfl)) (fun K hK => ?_); go_simp; refine hK _ ?_; clear hK K)
          (refine calm_yes rfl rfl (fun w' hC => (by have cCx := hC.cell cCx; have cCy := hC.cell cCy; have cDx := hC.cell cDx; have cDy := hC.cell cDy; have cCs := hC.cell cCs; have p0 := hC.cell p0; have p1 := hC.cell p1; go_simp; rfl)) (fun K hK => ?_); go_simp; refine hK _ ?_; clear hK K)
          (refine calm_yes rfl rfl (fun w' hC => (by have cCx := hC.cell cCx; have cCy := hC.cell cCy; have cDx := hC.cell cDx; have cDy := hC.cell cDy; have cCs := hC.cell cCs; have p0 := hC.cell p0; have p1 := hC.cell p1; go_simp; rfl)) (fun K hK => ?_); go_simp; refine hK _ ?_; clear hK K)
          (refine calm_yes rfl rfl (fun w' hC => (by have cCx := hC.cell cCx; have cCy := hC.cell cCy; have cDx := hC.cell cDx; have cDy := hC.cell cDy; have cCs := hC.cell cCs; have p0 := hC.cell p0; have p1 := hC.cell p1; go_simp; rfl)) (fun K hK => ?_); go_simp; refine hK _ ?_; clear hK K)
          refine calm_nil (fun wa hCa => ?_)
          refine late_keep rfl rfl hCa (fun wbw3 hxb hCb K hK => ?_)
          go_simp
          refine hK _ _ (Below.alloc hCb hCb.size _) (fun _ => ?_)
          clear hK K
          clear cCx cCy cDx cDy cCs p0 p1
          refine late_free (by kernel_rfl) rfl rfl (fun wd hxd K hK => ?_)
          have hZ := (Row.new wbw3 64 [.int .i64 0, .int .i64 0]).ext hxd
          have Eb := Ext.trans (ext_cls hCa) hxb
          have hlbw3 := Eb.size
          have e0 := hZ.cell_of (i := 0) rfl
          have ze0 := hZ.frozen 0
          have e1 := hZ.cell_of (i := 1) rfl
          have ze1 := hZ.frozen 1
          go_simp
          refine hK _ _ ?_
          clear hK K e0 ze0 e1 ze1
          refine late_nil (fun w3 hxz => ?_)
          have hR : Row w3 wbw3.heap.size 64 [.int .i64 bx, .int .i64 bz] := ((hZ.set_ 0 _).set_ 1 _).ext hxz
          have EN := Ext.trans (((Ext.trans (Ext.trans Eb (ext_alloc _ _)) hxd).setCell (p := ⟨wbw3.heap.size, 0, none⟩) (by simp; omega) _).setCell (p := ⟨wbw3.heap.size, 1, none⟩) (by simp; omega) _) hxz
          replace E := Lib.hid (Ext.trans E.out EN)
          replace O := Lib.hid (own_ext O.out EN)
          replace B := Lib.hid (B.out.ext EN)
          have lB := B.out.lt
          replace Cx := Lib.hid (Cls.cell EN Cx.out)
          replace Cy := Lib.hid (Cls.cell EN Cy.out)
          replace Dx := Lib.hid (Cls.cell EN Dx.out)
          replace Dy := Lib.hid (Cls.cell EN Dy.out)
          replace Cs := Lib.hid (Cls.cell EN Cs.out)
          replace P := Lib.hid (P.out.ext EN)
          have lP := P.out.lt
          have Q := Lib.hid hR
          have lQ := Q.out.lt
          clear hR EN hZ Eb hCa hCb hxb hxd hxz
          have cCx := Cx.out
          have cCy := Cy.out
          have cDx := Dx.out
          have cDy := Dy.out
          have cCs := Cs.out
          have p0 := P.out.cell_of (i := 0) rfl
          have p1 := P.out.cell_of (i := 1) rfl
          clear cCx cCy cDx cDy cCs p0 p1
          have p0 := P.out.cell_of (i := 0) rfl
          have p1 := P.out.cell_of (i := 1) rfl
          have q0 := Q.out.cell_of (i := 0) rfl
          have q1 := Q.out.cell_of (i := 1) rfl
          have b0 := B.out.cell_of (i := 0) rfl
          have b1 := B.out.cell_of (i := 1) rfl
          have b2 := B.out.cell_of (i := 2) rfl
          have b3 := B.out.cell_of (i := 3) rfl
          clear g1 g2 Cx Cy Dx Dy Cs
          have hz3 : w.heap.size ≤ w3.heap.size := E.out.size
          obtain ⟨X1, hX1⟩ : ∃ X, max ax bx = X := ⟨_, rfl⟩
          obtain ⟨N1, hN1⟩ : ∃ X, min ax bx = X := ⟨_, rfl⟩
          obtain ⟨X2, hX2⟩ : ∃ X, max ay bz = X := ⟨_, rfl⟩
          obtain ⟨N2, hN2⟩ : ∃ X, min ay bz = X := ⟨_, rfl⟩
          have HT : Hid (tchB (l, t, rt, bt) (ax, ay) (bx, bz) = (decide (ay ≠ bz) && (decide (16 * l ≤ X1) && (decide (N1 < 16 * rt) && (decide (16 * t < X2) && decide (N2 < 16 * bt)))))) := Lib.hid (by unfold tchB; rw [hX1, hN1, hX2, hN2])
          have mx1 : (if ax < bx then bx else ax) = X1 := by rw [← hX1]; split <;> omega
          have mn1 : (if bx < ax then bx else ax) = N1 := by rw [← hN1]; split <;> omega
          have mx2 : (if ay < bz then bz else ay) = X2 := by rw [← hX2]; split <;> omega
          have mn2 : (if bz < ay then bz else ay) = N2 := by rw [← hN2]; split <;> omega
          clear hX1 hN1 hX2 hN2
          by_cases c0 : ay = bz
          · have Hno : Hid (tchB (l, t, rt, bt) (ax, ay) (bx, bz) = false) := Lib.hid (by rw [HT.out]; simp [c0])
            have c0b : (ay == bz) = true := by simp [c0]
            have c0n : (ay != bz) = false := by simp [c0]
            clear c0
            have Hn : Hid (fs = es ++ ((edgesL r).take (j + 1)).filter (fun e => tchB (l, t, rt, bt) e.1 e.2)) := Lib.hid (by rw [Hst.out, Hno.out]; simp)
            clear Hno
            go_wp2
            go_roundw
            case rel => exact ⟨j + 1, A2, cap2, fs, by omega, by go_num, rfl, Hn.out, O.out, B.out, E.out⟩
            case measure => simp [intOf]; omega
          · have c0b : (ay == bz) = false := by simp [c0]
            have c0n : (ay != bz) = true := by simp [c0]
            by_cases c1 : 16 * l ≤ X1
            · by_cases c2 : N1 < 16 * rt
              · by_cases c3 : 16 * t < X2
                · by_cases c4 : N2 < 16 * bt
                  · have Hyes : Hid (tchB (l, t, rt, bt) (ax, ay) (bx, bz) = true) := Lib.hid (by rw [HT.out]; simp [c0, c1, c2, c3, c4])
                    have Hn : Hid (fs ++ [((ax, ay), (bx, bz))] = es ++ ((edgesL r).take (j + 1)).filter (fun e => tchB (l, t, rt, bt) e.1 e.2)) := Lib.hid (by rw [Hst.out, Hyes.out]; rfl)
                    clear Hyes
                    go_wp2_with (at_builtin; refine wpList_app (base := w.heap.size) ei_ed rfl (.tmp 104) (.tmp 108) rfl rfl (own_ext O.out (ext_alloc _ _)) rfl (src_new _ _ [_, _, _, _] (m := 1) rfl (by intro u hu; simp only [List.mem_cons, List.not_mem_nil, or_false] at hu; rcases hu with rfl | rfl | rfl | rfl <;> rfl)) (by omega) (by simp; omega) ?_; intro ve w5 hown hg hat; refine stop_in ?_)
                    refine stop_out ?_
                    obtain ⟨A3, cap3, hve⟩ := own_form hown
                    clear p0 p1 q0 q1 b0 b1 b2 b3
                    replace E := Lib.hid (Below.grown (Ext.trans E.out (ext_alloc _ _)) hg (by simp; omega) (fun k hk => by have := (O.out.lt k hk).1; omega))
                    replace B := Lib.hid ((B.out.ext (ext_alloc _ _)).grownNe (own_ext O.out (ext_alloc _ _)) (by decide) hg)
                    have lB := B.out.lt
                    replace P := Lib.hid ((P.out.ext (ext_alloc _ _)).grownNe (own_ext O.out (ext_alloc _ _)) (by decide) hg)
                    have lP := P.out.lt
                    replace Q := Lib.hid ((Q.out.ext (ext_alloc _ _)).grownNe (own_ext O.out (ext_alloc _ _)) (by decide) hg)
                    have lQ := Q.out.lt
                    have heq : fs ++ [((ax, ay), (bx, bz))] = (fs ++ [((ax, ay), (bx, bz))]) := rfl
                    replace O : Hid (Has w5 w.heap.size 66 4 (.slice A3 ((fs ++ [((ax, ay), (bx, bz))])).length cap3) ((fs ++ [((ax, ay), (bx, bz))])).length (((fs ++ [((ax, ay), (bx, bz))])).flatMap edC)) := Lib.hid (by
                      have q := hown
                      rw [hve] at q
                      rw [← heq, List.flatMap_append, List.length_append]
                      exact q)
                    have hvf : ve = .slice A3 ((fs ++ [((ax, ay), (bx, bz))])).length cap3 := by rw [hve, ← heq, List.length_append]; rfl
                    clear hve
                    clear hown hg hat heq
                    subst hvf
                    have p0 := P.out.cell_of (i := 0) rfl
                    have p1 := P.out.cell_of (i := 1) rfl
                    have q0 := Q.out.cell_of (i := 0) rfl
                    have q1 := Q.out.cell_of (i := 1) rfl
                    have b0 := B.out.cell_of (i := 0) rfl
                    have b1 := B.out.cell_of (i := 1) rfl
                    have b2 := B.out.cell_of (i := 2) rfl
                    have b3 := B.out.cell_of (i := 3) rfl
                    go_wp2
                    go_roundw
                    case rel => exact ⟨j + 1, A3, cap3, _, by omega, by go_num, rfl, Hn.out, O.out, B.out, E.out⟩
                    case measure => simp [intOf]; omega
                  · have Hno : Hid (tchB (l, t, rt, bt) (ax, ay) (bx, bz) = false) := Lib.hid (by rw [HT.out]; simp [c4])
                    have Hn : Hid (fs = es ++ ((edgesL r).take (j + 1)).filter (fun e => tchB (l, t, rt, bt) e.1 e.2)) := Lib.hid (by rw [Hst.out, Hno.out]; simp)
                    clear Hno
                    go_wp2
                    go_roundw
                    case rel => exact ⟨j + 1, A2, cap2, fs, by omega, by go_num, rfl, Hn.out, O.out, B.out, E.out⟩
                    case measure => simp [intOf]; omega
                · have Hno : Hid (tchB (l, t, rt, bt) (ax, ay) (bx, bz) = false) := Lib.hid (by rw [HT.out]; simp [c3])
                  have Hn : Hid (fs = es ++ ((edgesL r).take (j + 1)).filter (fun e => tchB (l, t, rt, bt) e.1 e.2)) := Lib.hid (by rw [Hst.out, Hno.out]; simp)
                  clear Hno
                  go_wp2
                  go_roundw
                  case rel => exact ⟨j + 1, A2, cap2, fs, by omega, by go_num, rfl, Hn.out, O.out, B.out, E.out⟩
                  case measure => simp [intOf]; omega
              · have Hno : Hid (tchB (l, t, rt, bt) (ax, ay) (bx, bz) = false) := Lib.hid (by rw [HT.out]; simp [c2])
                have Hn : Hid (fs = es ++ ((edgesL r).take (j + 1)).filter (fun e => tchB (l, t, rt, bt) e.1 e.2)) := Lib.hid (by rw [Hst.out, Hno.out]; simp)
                clear Hno
                go_wp2
                go_roundw
                case rel => exact ⟨j + 1, A2, cap2, fs, by omega, by go_num, rfl, Hn.out, O.out, B.out, E.out⟩
                case measure => simp [intOf]; omega
            · have Hno : Hid (tchB (l, t, rt, bt) (ax, ay) (bx, bz) = false) := Lib.hid (by rw [HT.out]; simp [c1])
              have Hn : Hid (fs = es ++ ((edgesL r).take (j + 1)).filter (fun e => tchB (l, t, rt, bt) e.1 e.2)) := Lib.hid (by rw [Hst.out, Hno.out]; simp)
              clear Hno
              go_wp2
              go_roundw
              case rel => exact ⟨j + 1, A2, cap2, fs, by omega, by go_num, rfl, Hn.out, O.out, B.out, E.out⟩
              case measure => simp [intOf]; omega
        · have hj' : j = r.length := by omega
          have Hf : Hid (fs = touchL (rs.take (k + 1)) (l, t, rt, bt)) := Lib.hid (by rw [Hfs.out, Hn.out, hj', List.take_of_length_le (by rw [edgesL_len]; exact Nat.le_refl _)])
          clear hj'
          have cr := Cls.cell E.out Cr.out
          have v2d : decide ((j : Int) < (r.length : Int)) = false := decide_eq_false (by omega)
          go_wp2
          go_roundw
          case rel => exact ⟨k + 1, A2, cap2, fs, by omega, by go_num, rfl, Hf.out, O.out, B.out, E.out⟩
          case measure => simp [intOf]; omega
    · have hk' : k = rs.length := by omega
      have Hf : Hid (es = touchL rs (l, t, rt, bt)) := Lib.hid (by rw [Hes.out, hk', List.take_length])
      clear hk'
      have v1d : decide ((k : Int) < (rs.length : Int)) = false := decide_eq_false (by omega)
      go_wp2
      go_ret
      rw [← Hf.out]
      exact ⟨A1, cap1, rfl, O.out, E.out⟩
end Go.Proofs.Ytefbebikbdigfaa
