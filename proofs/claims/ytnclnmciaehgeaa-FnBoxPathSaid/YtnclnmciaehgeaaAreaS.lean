/-
  The reference's areas: the walk.
-/
import Derived.Test.YtnclnmciaehgeaaWindS
import Derived.Test.YtnclnmciaehgeaaWindI
namespace Go.Proofs.Ytnclnmciaehgeaa
open Go Go.RowKit Reg
attribute [local go_sem] calmAt calmUpon
set_option maxRecDepth 100000 in
set_option maxHeartbeats 4000000 in
theorem c_sAreaOf (A : Option Addr) (cap : Nat) (rs : List Rg) (w : World) (h : Rgs w A rs) (hl : rs.length ≤ 1000000000) (hs : ∀ r ∈ rs, r.length ≤ 1000000000) :
    Calls Try.prog 80 #[.slice A rs.length cap] w fun e w' => e = .returned (.int .i64 (areaR rs)) ∧ Below w.heap.size w w' := by
  have K0 := Lib.hid (c_sValidRings A cap rs w h hl hs)
  have H := Lib.hid h
  clear h hs
  obtain ⟨S, hS⟩ : ∃ S, areaR rs = S := ⟨_, rfl⟩
  rw [hS]
  have HS := Lib.hid hS
  obtain ⟨d, hd⟩ : ∃ d, rgsB rs = d := ⟨_, rfl⟩
  rw [hd] at K0
  have Hd := Lib.hid hd
  have E := Lib.hid (Below.refl w.heap.size w)
  clear hS hd
  go_enter Try.func80, Try.ntmps80
  go_wp2_with fail
  refine (K0.out).mono ?_
  rintro e w1 ⟨rfl, hb⟩
  replace E := Lib.hid (Ext.trans E.out hb)
  clear hb
  cases d
  · have Hf : Hid (S = 0) := Lib.hid (by rw [← HS.out]; unfold areaR; rw [Hd.out]; rfl)
    go_wp2
    go_ret
    exact ⟨ret_i (by rw [Hf.out]), E.out⟩
  · have hr := rgsB_iff.1 Hd.out
    have hrl : rs.length ≤ 8 := hr.2.1
    have Hr := Lib.hid hr.1
    have Hw : Hid (S = sumS areaE rs) := Lib.hid (by rw [← HS.out]; unfold areaR; rw [Hd.out]; rfl)
    clear hr
    go_wp2_with fail
    go_loopw [3, 4] (fun n i wr => ∃ (k : Nat), k ≤ rs.length ∧ i = .int .i64 k ∧ n = .int .i64 (sumS areaE (rs.take k)) ∧ Ext w wr) (fun _ i _ => rs.length - (intOf i).toNat)
    case atStart => exact ⟨0, Nat.zero_le _, rfl, rfl, E.out⟩
    case round =>
      obtain ⟨k, hk, rfl, rfl, hbw⟩ := hrel
      clear E
      have E := Lib.hid hbw
      clear hbw
      have hbd := sumS_bd (f := areaE) (rs := rs) (B := 320000000) (fun r hr => by have := sumE_bd40 (f := areaE) (B := 8000000) (fun a ha b hb => areaE_bd (crd2_of (Hr.out r hr).2 ha) (crd2_of (Hr.out r hr).2 hb)) (by omega) (Hr.out r hr).2; omega) (by omega) (k := k) (by omega)
      by_cases hlt : k < rs.length
      · obtain ⟨b, off, hA, _, hc⟩ := H.out.rgs (by omega)
        subst hA
        obtain ⟨A', cap', cr, hp, hle, hmx⟩ := hc k hlt
        have hps := (Hr.out _ (List.getElem_mem hlt)).2
        have Hs := Lib.hid (sumS_take areaE hlt)
        have Hp := Lib.hid hp
        have Cr := Lib.hid cr
        have h40 := psB_len hps
        clear hc hp cr
        generalize rs[k] = r at *
        have Hps := Lib.hid hps
        clear hps
        generalize sumS areaE (rs.take k) = n at *
        obtain ⟨wo, hwo⟩ : ∃ wo : World, wo = wr := ⟨_, rfl⟩
        subst hwo
        go_wp2_with fail
        go_loopw [3, 5] (fun n' i wr => ∃ (j : Nat), j ≤ r.length ∧ i = .int .i64 j ∧ n' = .int .i64 (n + sumEk areaE r j) ∧ Ext w wr) (fun _ i _ => r.length - (intOf i).toNat)
        case atStart => exact ⟨0, Nat.zero_le _, rfl, by simp [sumEk, sumI], E.out⟩
        case round =>
          obtain ⟨j, hj, rfl, rfl, hbw⟩ := hrel
          clear E
          have E := Lib.hid hbw
          clear hbw
          have hbj := sumEk_bd (f := areaE) (r := r) (B := 8000000) (fun a ha b hb => areaE_bd (crd2_of Hps.out ha) (crd2_of Hps.out hb)) (by omega) (k := j) (by omega)
          by_cases hjl : j < r.length
          · obtain ⟨m, hm⟩ : ∃ m, m = (j + 1) % r.length := ⟨_, rfl⟩
            have hml : m < r.length := by rw [hm]; exact Nat.mod_lt _ (by omega)
            obtain ⟨b1, off1, hA, _, hc⟩ := (Hp.out.ext ptR_stab E.out).pts (by omega)
            subst hA
            obtain ⟨cx, cy⟩ := hc j hjl
            obtain ⟨dx, dy⟩ := hc m hml
            have Hst := Lib.hid (sumEk_succ areaE hjl hm hml)
            have hne : ¬ r = [] := by intro hh; subst hh; simp at hjl
            have g1 : IntKind.i64.wrap ((j : Int) + 1) = (j : Int) + 1 := IntWalk.i64_in _ (by omega)
            have g2 : Int.tmod ((j : Int) + 1) (r.length : Int) = (m : Int) := by rw [hm]; exact tmod_nat1 j r.length 1
            obtain ⟨⟨q1, q2⟩, q3, q4⟩ := crd2_of Hps.out (List.getElem_mem hjl)
            obtain ⟨⟨q5, q6⟩, q7, q8⟩ := crd2_of Hps.out (List.getElem_mem hml)
            have G := Lib.hid (And.intro g1 g2)
            obtain ⟨u1, u2⟩ : (0 : Int) ≤ (m : Int) ∧ (m : Int) < (r.length : Int) := by omega
            have Cx := Lib.hid cx
            have Cy := Lib.hid cy
            have Dx := Lib.hid dx
            have Dy := Lib.hid dy
            have Cs := Lib.hid (Cls.cell E.out Cr.out)
            clear hc g1 g2 hm cx cy dx dy
            generalize r[j] = p at *
            generalize r[m] = q at *
            obtain ⟨ax, ay⟩ := p
            obtain ⟨bx, bz⟩ := q
            dsimp only at q1 q2 q3 q4 q5 q6 q7 q8
            have p1 := mul_bd (a := ax) (b := bz) (A := 2000) (B := 2000) (by omega) (by omega) (by omega) (by omega)
            have p2 := mul_bd (a := bx) (b := ay) (A := 2000) (B := 2000) (by omega) (by omega) (by omega) (by omega)
            generalize sumEk areaE r j = t at *
            have v1 : (k : Int) < (rs.length : Int) := by omega
            have v2 : (j : Int) < (r.length : Int) := by omega
            have cCx := Cx.out
            have cCy := Cy.out
            have cDx := Dx.out
            have cDy := Dy.out
            have cCs := Cs.out
            go_wp2_with fail
            clear cCx cCy cDx cDy cCs
            first | refine gen_calls ?_ | refine gen_code ?_ | refine gen_list ?_
            intro w2 hW
            obtain ⟨hb, hP⟩ := new1 hW
            clear hW
            replace E := Lib.hid (Ext.trans E.out hb)
            replace Cx := Lib.hid (Cls.cell hb Cx.out)
            replace Cy := Lib.hid (Cls.cell hb Cy.out)
            replace Dx := Lib.hid (Cls.cell hb Dx.out)
            replace Dy := Lib.hid (Cls.cell hb Dy.out)
            replace Cs := Lib.hid (Cls.cell hb Cs.out)
            clear hb
            have P := Lib.hid hP
            have lP := P.out.lt
            clear hP
            have cCx := Cx.out
            have cCy := Cy.out
            have cDx := Dx.out
            have cDy := Dy.out
            have cCs := Cs.out
            clear cCx cCy cDx cDy cCs
            have cCx := Cx.out
            have cCy := Cy.out
            have cDx := Dx.out
            have cDy := Dy.out
            have cCs := Cs.out
            have p0 := P.out.cell_of (i := 0) rfl
            have p1 := P.out.cell_of (i := 1) rfl
            obtain ⟨g1, g2⟩ := G.out
            refine wp_region_calm [0,1,2,3,4,5,6,7,8,9,10,11,12,13] [14,15] (by kernel_rfl) (by kernel_rfl) ?_
            (refine calm_yes rfl rfl (fun w' hC => (by have cCx := hC.cell cCx; have cCy := hC.cell cCy; have cDx := hC.cell cDx; have cDy := hC.cell cDy; have cCs := hC.cell cCs; have p0 := hC.cell p0; have p1 := hC.cell p1; go_simp; rfl)) (fun K hK => ?_); go_simp; refine hK _ ?_; clear hK K)
            (refine calm_yes rfl rfl (fun w' hC => (by have cCx := hC.cell cCx; have cCy := hC.cell cCy; have cDx := hC.cell cDx; have cDy := hC.cell cDy; have cCs := hC.cell cCs; have p0 := hC.cell p0; have p1 := hC.cell p1; go_simp; rfl)) (fun K hK => ?_); go_simp; refine hK _ ?_; clear hK K)
            (refine calm_yes rfl rfl (fun w' hC => (by have cCx := hC.cell cCx; have cCy := hC.cell cCy; have cDx := hC.cell cDx; have cDy := hC.cell cDy; have cCs := hC.cell cCs; have p0 := hC.cell p0; have p1 := hC.cell p1; go_simp; rfl)) (fun K hK => ?_); go_simp; refine hK _ ?_; clear hK K)
            (refine calm_yes rfl rfl (fun w' hC => (by have cCx := hC.cell cCx; have cCy := hC.cell cCy; have cDx := hC.cell cDx; have cDy := hC.cell cDy; have cCs := hC.cell cCs; have p0 := hC.cell p0; have p1 := hC.cell p1; go_simp; rfl)) (fun K hK => ?_); go_simp; refine hK _ ?_; clear hK K)
            (refine calm_yes rfl rfl (fun w' hC => (by have cCx := hC.cell cCx; have cCy := hC.cell cCy; have cDx := hC.cell cDx; have cDy := hC.cell cDy; have cCs := hC.cell cCs; have p0 := hC.cell p0; have p1 := hC.cell p1; go_simp; rfl)) (fun K hK => ?_); go_simp; refine hK _ ?_; clear hK K)
            (refine calm_yes rfl rfl (fun w' hC => (by have cCx := hC.cell cCx; have cCy := hC.cell cCy; have cDx := hC.cell cDx; have cDy := hC.cell cDy; have cCs := hC.cell cCs; have p0 := hC.cell p0; have p1 := hC.cell p1; go_simp; rfl)) (fun K hK => ?_); go_simp; refine hK _ ?_; clear hK K)
            (refine calm_yes rfl rfl (fun w' hC => (by have cCx := hC.cell cCx; have cCy := hC.cell cCy; have cDx := hC.cell cDx; have cDy := hC.cell cDy; have cCs := hC.cell cCs; have p0 := hC.cell p0; have p1 := hC.cell p1; go_simp; rfl)) (fun K hK => ?_); go_simp; refine hK _ ?_; clear hK K)
            (refine calm_yes rfl rfl (fun w' hC => (by have cCx := hC.cell cCx; have cCy := hC.cell cCy; have cDx := hC.cell cDx; have cDy := hC.cell cDy; have cCs := hC.cell cCs; have p0 := hC.cell p0; have p1 := hC.cell p1; go_simp; rfl)) (fun K hK => ?_); go_simp; refine hK _ ?_; clear hK K)
            (refine calm_yes rfl rfl (fun w' hC => (by have cCx := hC.cell cCx; have cCy := hC.cell cCy; have cDx := hC.cell cDx; have cDy := hC.cell cDy; have cCs := hC.cell cCs; have p0 := hC.cell p0; have p1 := hC.cell p1; go_simp; rfl)) (fun K hK => ?_); go_simp; refine hK _ ?_; clear hK K)
            (refine calm_yes rfl rfl (fun w' hC => (by have cCx := hC.cell cCx; have cCy := hC.cell cCy; have cDx := hC.cell cDx; have cDy := hC.cell cDy; have cCs := hC.cell cCs; have p0 := hC.cell p0; have p1 := hC.cell p1; go_simp; rfl)) (fun K hK => ?_); go_simp; refine hK _ ?_; clear hK K)
            (refine calm_yes rfl rfl (fun w' hC => (by have cCx := hC.cell cCx; have cCy := hC.cell cCy; have cDx := hC.cell cDx; have cDy := hC.cell cDy; have cCs := hC.cell cCs; have p0 := hC.cell p0; have p1 := hC.cell p1; go_simp; rfl)) (fun K hK => ?_); go_simp; refine hK _ ?_; clear hK K)
            (refine calm_yes rfl rfl (fun w' hC => (by have cCx := hC.cell cCx; have cCy := hC.cell cCy; have cDx := hC.cell cDx; have cDy := hC.cell cDy; have cCs := hC.cell cCs; have p0 := hC.cell p0; have p1 := hC.cell p1; go_simp; rfl)) (fun K hK => ?_); go_simp; refine hK _ ?_; clear hK K)
            (refine calm_yes rfl rfl (fun w' hC => (by have cCx := hC.cell cCx; have cCy := hC.cell cCy; have cDx := hC.cell cDx; have cDy := hC.cell cDy; have cCs := hC.cell cCs; have p0 := hC.cell p0; have p1 := hC.cell p1; go_simp; rfl)) (fun K hK => ?_); go_simp; refine hK _ ?_; clear hK K)
            (refine calm_yes rfl rfl (fun w' hC => (by have cCx := hC.cell cCx; have cCy := hC.cell cCy; have cDx := hC.cell cDx; have cDy := hC.cell cDy; have cCs := hC.cell cCs; have p0 := hC.cell p0; have p1 := hC.cell p1; go_simp; rfl)) (fun K hK => ?_); go_simp; refine hK _ ?_; clear hK K)
            refine calm_nil (fun wa hCa => ?_)
            refine late_keep rfl rfl hCa (fun wbw3 hxb hCb K hK => ?_)
            go_simp
            refine hK _ _ (Below.alloc hCb hCb.size _) (fun _ => ?_)
            clear hK K
            clear cCx cCy cDx cDy cCs p0 p1
            refine late_free (by kernel_rfl) rfl rfl (fun wd hxd K hK => ?_)
            have hZ := (Row.new wbw3 33 [.int .i64 0, .int .i64 0]).ext hxd
            have Eb := Ext.trans (ext_cls hCa) hxb
            have hlbw3 := Eb.size
            have e0 := hZ.cell_of (i := 0) rfl
            have ze0 := hZ.frozen 0
            have e1 := hZ.cell_of (i := 1) rfl
            have ze1 := hZ.frozen 1
            go_simp
            refine hK _ _ ?_
            clear hK K e0 ze0 e1 ze1
            refine late_nil (fun w3 hxz => ?_)
            have hR : Row w3 wbw3.heap.size 33 [.int .i64 bx, .int .i64 bz] := ((hZ.set_ 0 _).set_ 1 _).ext hxz
            have EN := Ext.trans (((Ext.trans (Ext.trans Eb (ext_alloc _ _)) hxd).setCell (p := ⟨wbw3.heap.size, 0, none⟩) (by simp; omega) _).setCell (p := ⟨wbw3.heap.size, 1, none⟩) (by simp; omega) _) hxz
            replace E := Lib.hid (Ext.trans E.out EN)
            replace Cx := Lib.hid (Cls.cell EN Cx.out)
            replace Cy := Lib.hid (Cls.cell EN Cy.out)
            replace Dx := Lib.hid (Cls.cell EN Dx.out)
            replace Dy := Lib.hid (Cls.cell EN Dy.out)
            replace Cs := Lib.hid (Cls.cell EN Cs.out)
            replace P := Lib.hid (P.out.ext EN)
            have lP := P.out.lt
            have Q := Lib.hid hR
            have lQ := Q.out.lt
            clear hR EN hZ Eb hCa hCb hxb hxd hxz
            have cCx := Cx.out
            have cCy := Cy.out
            have cDx := Dx.out
            have cDy := Dy.out
            have cCs := Cs.out
            have p0 := P.out.cell_of (i := 0) rfl
            have p1 := P.out.cell_of (i := 1) rfl
            clear cCx cCy cDx cDy cCs p0 p1
            have cCx := Cx.out
            have cCy := Cy.out
            have cDx := Dx.out
            have cDy := Dy.out
            have cCs := Cs.out
            have p0 := P.out.cell_of (i := 0) rfl
            have p1 := P.out.cell_of (i := 1) rfl
            have q0 := Q.out.cell_of (i := 0) rfl
            have q1 := Q.out.cell_of (i := 1) rfl
            clear g1 g2
            go_wp2
            go_roundw
            case rel => exact ⟨j + 1, by omega, by go_num, by rw [Hst.out]; congr 1; simp only [areaE]; omega, E.out⟩
            case measure => simp [intOf]; omega
          · have hj' : j = r.length := by omega
            have Hf := Lib.hid (sumEk_all areaE hj')
            clear hj'
            have cr := Cls.cell E.out Cr.out
            go_wp2
            go_roundw
            case rel => exact ⟨k + 1, by omega, by go_num, by rw [Hs.out, Hf.out], E.out⟩
            case measure => simp [intOf]; omega
      · have hk' : k = rs.length := by omega
        have Hf : Hid (sumS areaE (rs.take k) = S) := Lib.hid (by rw [hk', List.take_length]; exact Hw.out.symm)
        clear hk'
        go_wp2
        go_ret
        exact ⟨ret_i (by rw [Hf.out]), E.out⟩
end Go.Proofs.Ytnclnmciaehgeaa
