/-
  FlattenCurve: the reference's walk.
-/
import Derived.Test.YtmoobdohhnficaaFlatW
import Derived.Test.YtmoobdohhnficaaFlatS
import Derived.Test.YtmoobdohhnficaaRegionO
namespace Go.Proofs.Ytmoobdohhnficaa
open Go Go.RowKit Reg
attribute [local go_sem] calmAt calmUpon
set_option maxHeartbeats 1000000 in
theorem c_validCurve (A : Option Addr) (cap : Nat) (c : List Pt) (w : World) (h : Pts w A c) (hl : c.length ≤ 1000000) :
    Calls Try.prog 24 #[.slice A c.length cap] w fun e w' => e = .returned (.bool (curveB c)) ∧ Below w.heap.size w w' := by
  have K := Lib.hid (c_validPoints A cap c w h (by omega))
  have E := Lib.hid (Below.refl w.heap.size w)
  obtain ⟨S, hS⟩ : ∃ S, curveB c = S := ⟨_, rfl⟩
  rw [hS]
  obtain ⟨d1, hd1⟩ : ∃ d, inB (c.length : Int) 2 4 = d := ⟨_, rfl⟩
  obtain ⟨d2, hd2⟩ : ∃ d, psB c = d := ⟨_, rfl⟩
  have HS : Hid ((d1 && d2) = S) := Lib.hid (by rw [← hS]; unfold curveB; rw [hd1, hd2])
  have H1 := Lib.hid hd1
  have H2 := Lib.hid hd2
  clear h hS hd1 hd2
  go_enter Try.func24, Try.ntmps24
  go_wp2_with fail
  refine (c_inRange (c.length : Int) 2 4 _).mono ?_
  rw [H1.out]
  rintro e w' ⟨rfl, rfl⟩
  cases d1
  · have Hf : Hid (S = false) := Lib.hid (by rw [← HS.out]; rfl)
    go_wp2
    go_ret
    exact ⟨by rw [Hf.out]; rfl, E.out⟩
  · go_wp2_with fail
    refine (K.out).mono ?_
    rw [H2.out]
    rintro e w1 ⟨rfl, hb⟩
    replace E := Lib.hid (Ext.trans E.out hb)
    clear hb
    have Hf : Hid (S = d2) := Lib.hid (by rw [← HS.out]; rfl)
    go_wp2
    go_ret
    exact ⟨by rw [Hf.out]; rfl, E.out⟩
set_option maxRecDepth 100000 in
set_option maxHeartbeats 4000000 in
theorem c_sFlattenCurve (A : Option Addr) (cap : Nat) (c : List Pt) (lim d : Int) (w : World) (h : Pts w A c) (hl : c.length ≤ 1000000) :
    Calls Try.prog 11 #[.slice A c.length cap, .int .i64 lim, .int .i64 d] w (RetP w (flatR c lim d)) := by
  have K := Lib.hid (c_validCurve A cap c w h hl)
  have H := Lib.hid h
  have E := Lib.hid (Below.refl w.heap.size w)
  obtain ⟨S, hS⟩ : ∃ S, flatR c lim d = S := ⟨_, rfl⟩
  rw [hS]
  obtain ⟨d1, hd1⟩ : ∃ d, curveB c = d := ⟨_, rfl⟩
  obtain ⟨d2, hd2⟩ : ∃ d, inB lim 0 1000 = d := ⟨_, rfl⟩
  obtain ⟨d3, hd3⟩ : ∃ e, inB d 0 4 = e := ⟨_, rfl⟩
  have HB : Hid (flatB c lim d = (d1 && d2 && d3)) := Lib.hid (by unfold flatB; rw [hd1, hd2, hd3])
  have HS := Lib.hid hS
  have H1 := Lib.hid hd1
  have H2 := Lib.hid hd2
  have H3 := Lib.hid hd3
  clear h hS hd1 hd2 hd3
  go_enter Try.func11, Try.ntmps11
  go_wp2_with fail
  refine (K.out).mono ?_
  rw [H1.out]
  rintro e w1 ⟨rfl, hb⟩
  replace E := Lib.hid (Ext.trans E.out hb)
  replace H := Lib.hid (H.out.ext ptR_stab hb)
  clear hb
  cases d1
  · have Hf : Hid (S = []) := Lib.hid (by rw [← HS.out]; exact flatR_no (by rw [HB.out]; rfl))
    go_wp2
    go_ret
    rw [Hf.out]
    exact retP_nil E.out
  · go_wp2_with fail
    refine (c_inRange lim 0 1000 _).mono ?_
    rw [H2.out]
    rintro e w' ⟨rfl, rfl⟩
    cases d2
    · have Hf : Hid (S = []) := Lib.hid (by rw [← HS.out]; exact flatR_no (by rw [HB.out]; rfl))
      go_wp2
      go_ret
      rw [Hf.out]
      exact retP_nil E.out
    · go_wp2_with fail
      refine (c_inRange d 0 4 _).mono ?_
      rw [H3.out]
      rintro e w' ⟨rfl, rfl⟩
      cases d3
      · have Hf : Hid (S = []) := Lib.hid (by rw [← HS.out]; exact flatR_no (by rw [HB.out]; rfl))
        go_wp2
        go_ret
        rw [Hf.out]
        exact retP_nil E.out
      · have hd := inB_iff.1 H3.out
        obtain ⟨n, rfl⟩ : ∃ n : Nat, d = (n : Int) := ⟨d.toNat, by omega⟩
        obtain ⟨⟨q1, q2⟩, q3⟩ := curveB_facts H1.out
        have hf1 : flatI lim n c = S := by rw [← HS.out, flatR_yes (by rw [HB.out]; rfl)]; rfl
        have hl17 : S.length ≤ 17 := by rw [← HS.out]; exact flatR_len c lim n
        obtain ⟨b, off, hA, hb0, hc⟩ := H.out.pts (by omega)
        subst hA
        obtain ⟨cx, cy⟩ := hc 0 (by omega)
        simp only [Nat.zero_mul, Nat.add_zero] at cx cy
        have hf2 : c[0]'(by omega) :: flatL lim n c = S := by rw [← hf1]; unfold flatI; rw [headD_at (by omega)]
        have KF := Lib.hid (fun W (hW : Pts W (some ⟨b, off, none⟩) c) => c_sflatten lim n (some ⟨b, off, none⟩) cap c W hW q3 (by omega) (by omega) (by omega))
        have Hp0 := Lib.hid hf2
        have hfl : (flatL lim n c).length ≤ 17 := by have := congrArg List.length hf2; simp at this; omega
        have i0 : (0 : Int) < (c.length : Int) := by omega
        have i0n : 0 < c.length := by omega
        have hzw : w.heap.size ≤ w1.heap.size := E.out.size
        clear hc q3 hf1 hf2
        generalize flatL lim n c = F at *
        generalize c[0]'i0n = p at *
        have Hp := Lib.hid Hp0.out
        clear Hp0
        go_wp2_with fail
        refine wp_region_open [0,1,2,4,5,6] 4 (by kernel_rfl) (by kernel_rfl) ?_
        iterate 6 ((refine calm_yes rfl rfl (fun w' hC => (by have cx := hC.cell cx; have cy := hC.cell cy; go_simp; rfl)) (fun K hK => ?_); go_simp; refine hK _ ?_; clear hK K))
        refine calm_nil (fun wa hCa => ?_)
        clear cx cy
        refine opE_two 3 7 (by kernel_rfl) ?_ ?_
        · skip
          refine stepE_keep rfl rfl hCa (fun wb hxb hCb K hK => ?_)
          have Eb : Ext w1 wb := Ext.trans (ext_cls hCa) hxb
          go_simp
          refine hK _ _ (Below.alloc hCb hCb.size _) (fun hCc => ?_)
          clear hK K
          refine opE_one 7 (by kernel_rfl) ?_
          refine stepE_keep rfl rfl hCc (fun wd hxd hCd K hK => ?_)
          have Ed : Ext w1 wd := Ext.trans (Ext.trans Eb (ext_alloc _ _)) hxd
          go_simp
          refine (KF.out wd (H.out.ext ptR_stab Ed)).mono ?_
          rintro e w5 ⟨A5, cap5, rfl, ho5, hb5⟩
          go_simp
          refine hK _ _ (Cls.ext hCd hb5) (fun hCy => ?_)
          clear hK K
          have EY := Lib.hid (Ext.trans Ed hb5)
          have OY := Lib.hid (own_of_row (n := 1) (B := w1.heap.size) (sz := 2) ((Row.new wb 44 [.int .i64 p.1, .int .i64 p.2]).ext (Ext.trans hxd hb5)) Eb.size rfl (by decide))
          have PY := Lib.hid (own_in (enc := ptC) (R := ptR) ptC_len (by decide) ho5 (fun _ => rfl))
          clear ho5 hb5 hxd hxb hCa hCb hCc hCd Eb Ed
          refine opE_one 8 (by kernel_rfl) ?_
          refine stepE_keep rfl rfl hCy (fun wk hxk hCk K hK => ?_)
          have OA := own_ext OY.out hxk
          have SB := (PY.out.ext ptR_stab hxk).src ptC_len (fun x us h => h) ptC_one (by decide)
          refine wp_app (base := w1.heap.size) ei_pt (.tmp 23) (.tmp 27) rfl rfl OA rfl SB (by omega) (Ext.trans EY.out hxk).size ?_
          intro ve we hown hg hat
          have EE := Lib.hid (Below.grown (Ext.trans EY.out hxk) hg (Ext.trans EY.out hxk).size (fun k hk => (OA.lt k hk).1))
          refine hK _ _ (Below.grown hCk hg hCk.size (fun k hk => (OA.lt k hk).1)) (fun hCe => ?_)
          clear hK K
          obtain ⟨A3, cap3, hve⟩ := own_form hown
          have O3 : Hid (Has we w1.heap.size 44 2 (.slice A3 (1 + F.length) cap3) (1 + F.length) ([Value.int .i64 p.1, .int .i64 p.2] ++ F.flatMap ptC)) := Lib.hid (by rw [hve] at hown; exact hown)
          clear hown hg hat OA SB
          subst hve
          refine opE_one 9 (by kernel_rfl) ?_
          refine stepE_keep rfl rfl hCe (fun wf hxf hCf K hK => ?_)
          go_simp
          refine hK _ _ hCf (fun hCg => ?_)
          clear hK K
          refine ⟨by kernel_rfl, fun wz hxz => ?_⟩
          have O4 := Lib.hid ((own_ext O3.out (Ext.trans hxf hxz)).rebase hzw)
          have E4 := Lib.hid (Ext.trans E.out (Ext.trans EE.out (Ext.trans hxf hxz)))
          clear hxf hxz hCf hCg hCe hCk hxk
          go_wp2
          go_ret
          rw [← Hp.out]
          exact ⟨A3, cap3, by simp; omega, by
            have h := O4.out
            rw [List.length_cons, List.flatMap_cons, Nat.add_comm F.length 1]
            exact h, E4.out⟩
        · skip
          refine stepE_keep rfl rfl hCa (fun wb hxb hCb K hK => ?_)
          have Eb : Ext w1 wb := Ext.trans (ext_cls hCa) hxb
          go_simp
          refine (KF.out wb (H.out.ext ptR_stab Eb)).mono ?_
          rintro e w5 ⟨A5, cap5, rfl, ho5, hb5⟩
          go_simp
          refine hK _ _ (Cls.ext hCb hb5) (fun hCc => ?_)
          clear hK K
          have E5 := Ext.trans Eb hb5
          refine opE_one 3 (by kernel_rfl) ?_
          refine stepE_keep rfl rfl hCc (fun wd hxd hCd K hK => ?_)
          go_simp
          refine hK _ _ (Below.alloc hCd hCd.size _) (fun hCy => ?_)
          clear hK K
          have EY := Lib.hid (Ext.trans (Ext.trans E5 hxd) (ext_alloc wd (.cells [.int .i64 p.1, .int .i64 p.2].toArray 44)))
          have OY := Lib.hid (own_of_row (n := 1) (B := w1.heap.size) (sz := 2) (Row.new wd 44 [.int .i64 p.1, .int .i64 p.2]) (Ext.trans E5 hxd).size rfl (by decide))
          have PY := Lib.hid ((own_in (enc := ptC) (R := ptR) ptC_len (by decide) ho5 (fun _ => rfl)).ext ptR_stab (Ext.trans hxd (ext_alloc wd (.cells [.int .i64 p.1, .int .i64 p.2].toArray 44))))
          clear ho5 hb5 hxd hxb hCa hCb hCc hCd Eb E5
          refine opE_one 8 (by kernel_rfl) ?_
          refine stepE_keep rfl rfl hCy (fun wk hxk hCk K hK => ?_)
          have OA := own_ext OY.out hxk
          have SB := (PY.out.ext ptR_stab hxk).src ptC_len (fun x us h => h) ptC_one (by decide)
          refine wp_app (base := w1.heap.size) ei_pt (.tmp 23) (.tmp 27) rfl rfl OA rfl SB (by omega) (Ext.trans EY.out hxk).size ?_
          intro ve we hown hg hat
          have EE := Lib.hid (Below.grown (Ext.trans EY.out hxk) hg (Ext.trans EY.out hxk).size (fun k hk => (OA.lt k hk).1))
          refine hK _ _ (Below.grown hCk hg hCk.size (fun k hk => (OA.lt k hk).1)) (fun hCe => ?_)
          clear hK K
          obtain ⟨A3, cap3, hve⟩ := own_form hown
          have O3 : Hid (Has we w1.heap.size 44 2 (.slice A3 (1 + F.length) cap3) (1 + F.length) ([Value.int .i64 p.1, .int .i64 p.2] ++ F.flatMap ptC)) := Lib.hid (by rw [hve] at hown; exact hown)
          clear hown hg hat OA SB
          subst hve
          refine opE_one 9 (by kernel_rfl) ?_
          refine stepE_keep rfl rfl hCe (fun wf hxf hCf K hK => ?_)
          go_simp
          refine hK _ _ hCf (fun hCg => ?_)
          clear hK K
          refine ⟨by kernel_rfl, fun wz hxz => ?_⟩
          have O4 := Lib.hid ((own_ext O3.out (Ext.trans hxf hxz)).rebase hzw)
          have E4 := Lib.hid (Ext.trans E.out (Ext.trans EE.out (Ext.trans hxf hxz)))
          clear hxf hxz hCf hCg hCe hCk hxk
          go_wp2
          go_ret
          rw [← Hp.out]
          exact ⟨A3, cap3, by simp; omega, by
            have h := O4.out
            rw [List.length_cons, List.flatMap_cons, Nat.add_comm F.length 1]
            exact h, E4.out⟩
end Go.Proofs.Ytmoobdohhnficaa
