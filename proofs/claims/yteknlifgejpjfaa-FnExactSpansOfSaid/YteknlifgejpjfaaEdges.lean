/-
  The edges of polygons, listed: the walk.
-/
import Derived.Test.YteknlifgejpjfaaStepW
namespace Go.Proofs.Yteknlifgejpjfaa
open Go Go.RowKit Reg
attribute [local go_sem] calmAt calmUpon
def edC (e : Ed) : List Value := [.int .i64 e.1.1, .int .i64 e.1.2, .int .i64 e.2.1, .int .i64 e.2.2]
def edR : World → Ed → List Value → Prop := fun _ e us => us = edC e
theorem edR_stab : Stab edR := fun _ _ _ _ h _ => h
theorem edC_len (e : Ed) : (edC e).length = 4 := rfl
abbrev Eds (w : World) (A : Option Addr) (es : List Ed) : Prop := In edR 4 w A es
theorem In.eds {w : World} {A : Option Addr} {es : List Ed} (h : Eds w A es) (hn : 0 < es.length) : ∃ b off, A = some ⟨b, off, none⟩ ∧ b < w.heap.size ∧
    ∀ (k : Nat) (h : k < es.length), w.cell? ⟨b, off + k * 4, none⟩ = some (.int .i64 es[k].1.1) ∧ w.cell? ⟨b, off + k * 4 + 1, none⟩ = some (.int .i64 es[k].1.2) ∧ w.cell? ⟨b, off + k * 4 + 2, none⟩ = some (.int .i64 es[k].2.1) ∧ w.cell? ⟨b, off + k * 4 + 3, none⟩ = some (.int .i64 es[k].2.2) := by
  have hlt := h.lt (by omega) hn
  obtain ⟨b, off, hA, hc⟩ := h hn
  refine ⟨b, off, hA, hlt b off hA, fun k hk => ?_⟩
  obtain ⟨us, h1, _, h3⟩ := hc k hk
  have h1' : us = edC es[k] := h1
  subst h1'
  exact ⟨h3 0 _ rfl, h3 1 _ rfl, h3 2 _ rfl, h3 3 _ rfl⟩
theorem edgesS_len (rs : List Rg) : (edgesS rs).length = corners rs := by
  unfold edgesS corners
  rw [List.length_flatMap]
  congr 1
  apply List.map_congr_left
  intro r _
  exact edgesL_len r
theorem edgesS_snoc (rs : List Rg) (r : Rg) : edgesS (rs ++ [r]) = edgesS rs ++ edgesL r := by simp [edgesS]
theorem edges_pts {r : Rg} (h : psB r = true) {e : Ed} (he : e ∈ edgesL r) : Crd2 e.1 ∧ Crd2 e.2 := by
  obtain ⟨a, b⟩ := e
  have h1 := (List.of_mem_zip he).1
  have h2 := (List.of_mem_zip he).2
  refine ⟨crd2_of h h1, crd2_of h ?_⟩
  rcases List.mem_append.1 h2 with h2 | h2
  · exact List.mem_of_mem_tail h2
  · exact List.mem_of_mem_take h2
theorem edgesS_pts {rs : List Rg} (h : rgsB rs = true) {e : Ed} (he : e ∈ edgesS rs) : Crd2 e.1 ∧ Crd2 e.2 := by
  unfold edgesS at he
  obtain ⟨r, hr, he⟩ := List.mem_flatMap.1 he
  exact edges_pts ((rgsB_iff.1 h).1 r hr).2 he
theorem sumS_edges (f : Pt → Pt → Int) (rs : List Rg) : sumS f rs = sumI ((edgesS rs).map fun e => f e.1 e.2) := by
  unfold sumS edgesS
  induction rs with
  | nil => rfl
  | cons r rs ih => rw [List.map_cons, sumI_cons, List.flatMap_cons, List.map_append, sumI_append, ih]; rfl
theorem ei_ed : EI Try.prog 65 68 (.agg #[.int .i64 0, .int .i64 0, .int .i64 0, .int .i64 0]) [.int .i64 0, .int .i64 0, .int .i64 0, .int .i64 0] 32 := ei_mk Try.underlying65 (by kernel_rfl) rfl (by decide) (by decide)
set_option maxRecDepth 100000 in
set_option maxHeartbeats 4000000 in
theorem c_edges (A : Option Addr) (cap : Nat) (rs : List Rg) (w : World) (h : Rgs w A rs) (hl : rs.length ≤ 1000) (hc : corners rs ≤ 1000000) :
    Calls Try.prog 43 #[.slice A rs.length cap] w fun e w' => ∃ A' cap', e = .returned (.slice A' (edgesS rs).length cap') ∧ Eds w' A' (edgesS rs) ∧ Below w.heap.size w w' := by
  have H := Lib.hid h
  have Hc := Lib.hid hc
  clear h hc
  go_enter Try.func43, Try.ntmps43
  go_wp2_with fail
  go_loopw [3, 10] (fun v i wr => ∃ (k : Nat) (A' : Option Addr) (cap' : Nat) (es : List Ed), k ≤ rs.length ∧ i = .int .i64 k ∧ v = .slice A' es.length cap' ∧ es = edgesS (rs.take k) ∧ Has wr w.heap.size 68 4 v es.length (es.flatMap edC) ∧ Below w.heap.size w wr) (fun _ i _ => rs.length - (intOf i).toNat)
  case atStart => exact ⟨0, none, 0, [], Nat.zero_le _, rfl, rfl, rfl, own_nil _ _ _ _, Below.refl _ _⟩
  case round =>
    obtain ⟨k, A1, cap1, es, hk, rfl, rfl, hes, how, hbw⟩ := hrel
    have Hes := Lib.hid hes
    have O := Lib.hid how
    have E := Lib.hid hbw
    clear hes how hbw
    by_cases hlt : k < rs.length
    · obtain ⟨b, off, hA, _, hc⟩ := H.out.rgs (by omega)
      subst hA
      obtain ⟨A', cap', cr, hp, hle, hmx⟩ := hc k hlt
      have Hn : Hid (es ++ edgesL rs[k] = edgesS (rs.take (k + 1))) := Lib.hid (by rw [Hes.out, List.take_succ_eq_append_getElem hlt, edgesS_snoc])
      have hlen : es.length + rs[k].length ≤ 1000000 := by
        have h1 := Hc.out
        have h2 : corners (rs.take (k + 1)) ≤ corners rs := by
          conv => rhs; rw [← List.take_append_drop (k + 1) rs]
          rw [corners_append]; omega
        rw [← edgesS_len, ← Hn.out, List.length_append, edgesL_len] at h2; omega
      have Hp := Lib.hid hp
      have Cr := Lib.hid (Cls.cell E.out cr)
      clear hc hp cr
      generalize rs[k] = r at *
      have hel := edgesL_len r
      have Hel := Lib.hid hel
      clear hel
      have cCr := Cr.out
      go_wp2_with fail
      clear cCr
      clear Cr
      obtain ⟨wo, hwo⟩ : ∃ wo : World, wo = wr := ⟨_, rfl⟩
      subst hwo
      go_loopw [3, 16] (fun v i wr => ∃ (j : Nat) (A' : Option Addr) (cap' : Nat) (fs : List Ed), j ≤ r.length ∧ i = .int .i64 j ∧ v = .slice A' fs.length cap' ∧ fs = es ++ (edgesL r).take j ∧ Has wr w.heap.size 68 4 v fs.length (fs.flatMap edC) ∧ Below w.heap.size w wr) (fun _ i _ => r.length - (intOf i).toNat)
      case atStart => exact ⟨0, A1, cap1, es, Nat.zero_le _, rfl, rfl, by simp, O.out, E.out⟩
      case round =>
        obtain ⟨j, A2, cap2, fs, hj, rfl, rfl, hfs, how, hbw⟩ := hrel
        have Hfs := Lib.hid hfs
        have hfl : fs.length = es.length + j := by rw [hfs, List.length_append, List.length_take, Hel.out]; omega
        have hfl' : fs.length ≤ es.length + j := by omega
        clear hfs hfl O E
        have O := Lib.hid how
        have E := Lib.hid hbw
        have hzz : w.heap.size ≤ wr.heap.size := hbw.size
        clear how hbw
        by_cases hjl : j < r.length
        · obtain ⟨m, hm⟩ : ∃ m, m = (j + 1) % r.length := ⟨_, rfl⟩
          have hml : m < r.length := by rw [hm]; exact Nat.mod_lt _ (by omega)
          obtain ⟨b1, off1, hA, _, hc⟩ := (Hp.out.ext ptR_stab E.out).pts (by omega)
          subst hA
          obtain ⟨cx, cy⟩ := hc j hjl
          obtain ⟨dx, dy⟩ := hc m hml
          have Hst : Hid (fs ++ [(r[j], r[m])] = es ++ (edgesL r).take (j + 1)) := Lib.hid (by
            have h1 := edgesL_get hjl
            rw [Hfs.out, List.append_assoc, List.take_succ_eq_append_getElem (by rw [edgesL_len]; exact hjl), h1]
            simp only [hm])
          have hne : ¬ r = [] := by intro hh; subst hh; simp at hjl
          have g1 : IntKind.i64.wrap ((j : Int) + 1) = (j : Int) + 1 := IntWalk.i64_in _ (by omega)
          have g2 : Int.tmod ((j : Int) + 1) (r.length : Int) = (m : Int) := by rw [hm]; exact tmod_nat1 j r.length 1
          have G := Lib.hid (And.intro g1 g2)
          obtain ⟨u1, u2⟩ : (0 : Int) ≤ (m : Int) ∧ (m : Int) < (r.length : Int) := by omega
          clear hc g1 g2 hm
          generalize r[j] = p at *
          generalize r[m] = q at *
          have Cx := Lib.hid cx
          have Cy := Lib.hid cy
          have Dx := Lib.hid dx
          have Dy := Lib.hid dy
          go_wp2_with fail
          first | refine gen_calls ?_ | refine gen_code ?_ | refine gen_list ?_
          intro w2 hW
          obtain ⟨hb, hP⟩ := new1 hW
          clear hW
          replace E := Lib.hid (Ext.trans E.out hb)
          replace O := Lib.hid (own_ext O.out hb)
          replace Cx := Lib.hid (Cls.cell hb Cx.out)
          replace Cy := Lib.hid (Cls.cell hb Cy.out)
          replace Dx := Lib.hid (Cls.cell hb Dx.out)
          replace Dy := Lib.hid (Cls.cell hb Dy.out)
          clear hb
          have P := Lib.hid hP
          have lP := P.out.lt
          clear hP
          have cCx := Cx.out
          have cCy := Cy.out
          have cDx := Dx.out
          have cDy := Dy.out
          clear cx cy dx dy
          clear cCx cCy cDx cDy
          have cCx := Cx.out
          have cCy := Cy.out
          have cDx := Dx.out
          have cDy := Dy.out
          have p0 := P.out.cell_of (i := 0) rfl
          have p1 := P.out.cell_of (i := 1) rfl
          obtain ⟨g1, g2⟩ := G.out
          have hzz : w.heap.size ≤ w2.heap.size := E.out.size
          refine wp_region_calm [0,1,2,3,4,5,6,7,8,9,10] [11,12,13] (by kernel_rfl) (by kernel_rfl) ?_
          (refine calm_yes rfl rfl (fun w' hC => (by have cCx := hC.cell cCx; have cCy := hC.cell cCy; have cDx := hC.cell cDx; have cDy := hC.cell cDy; have p0 := hC.cell p0; have p1 := hC.cell p1; go_simp; rfl)) (fun K hK => ?_); go_simp; refine hK _ ?_; clear hK K)
          (refine calm_yes rfl rfl (fun w' hC => (by have cCx := hC.cell cCx; have cCy := hC.cell cCy; have cDx := hC.cell cDx; have cDy := hC.cell cDy; have p0 := hC.cell p0; have p1 := hC.cell p1; go_simp; rfl)) (fun K hK => ?_); go_simp; refine hK _ ?_; clear hK K)
          (refine calm_yes rfl rfl (fun w' hC => (by have cCx := hC.cell cCx; have cCy := hC.cell cCy; have cDx := hC.cell cDx; have cDy := hC.cell cDy; have p0 := hC.cell p0; have p1 := hC.cell p1; go_simp; rfl)) (fun K hK => ?_); go_simp; refine hK _ ?_; clear hK K)
          (refine calm_yes rfl rfl (fun w' hC => (by have cCx := hC.cell cCx; have cCy := hC.cell cCy; have cDx := hC.cell cDx; have cDy := hC.cell cDy; have p0 := hC.cell p0; have p1 := hC.cell p1; go_simp; rfl)) (fun K hK => ?_); go_simp; refine hK _ ?_; clear hK K)
          (refine calm_yes rfl rfl (fun w' hC => (by have cCx := hC.cell cCx; have cCy := hC.cell cCy; have cDx := hC.cell cDx; have cDy := hC.cell cDy; have p0 := hC.cell p0; have p1 := hC.cell p1; go_simp; rfl)) (fun K hK => ?_); go_simp; refine hK _ ?_; clear hK K)
          (refine calm_yes rfl rfl (fun w' hC => (by have cCx := hC.cell cCx; have cCy := hC.cell cCy; have cDx := hC.cell cDx; have cDy := hC.cell cDy; have p0 := hC.cell p0; have p1 := hC.cell p1; go_simp; rfl)) (fun K hK => ?_); go_simp; refine hK _ ?_; clear hK K)
          (refine calm_yes rfl rfl (fun w' hC => (by have cCx := hC.cell cCx; have cCy := hC.cell cCy; have cDx := hC.cell cDx; have cDy := hC.cell cDy; have p0 := hC.cell p0; have p1 := hC.cell p1; go_simp; rfl)) (fun K hK => ?_); go_simp; refine hK _ ?_; clear hK K)
          (refine calm_yes rfl rfl (fun w' hC => (by have cCx := hC.cell cCx; have cCy := hC.cell cCy; have cDx := hC.cell cDx; have cDy := hC.cell cDy; have p0 := hC.cell p0; have p1 := hC.cell p1; go_simp; rfl)) (fun K hK => ?_); go_simp; refine hK _ ?_; clear hK K)
          (refine calm_yes rfl rfl (fun w' hC => (by have cCx := hC.cell cCx; have cCy := hC.cell cCy; have cDx := hC.cell cDx; have cDy := hC.cell cDy; have p0 := hC.cell p0; have p1 := hC.cell p1; go_simp; rfl)) (fun K hK => ?_); go_simp; refine hK _ ?_; clear hK K)
          (refine calm_yes rfl rfl (fun w' hC => (by have cCx := hC.cell cCx; have cCy := hC.cell cCy; have cDx := hC.cell cDx; have cDy := hC.cell cDy; have p0 := hC.cell p0; have p1 := hC.cell p1; go_simp; rfl)) (fun K hK => ?_); go_simp; refine hK _ ?_; clear hK K)
          (refine calm_yes rfl rfl (fun w' hC => (by have cCx := hC.cell cCx; have cCy := hC.cell cCy; have cDx := hC.cell cDx; have cDy := hC.cell cDy; have p0 := hC.cell p0; have p1 := hC.cell p1; go_simp; rfl)) (fun K hK => ?_); go_simp; refine hK _ ?_; clear hK K)
          refine calm_nil (fun wa hCa => ?_)
          refine late_keep rfl rfl hCa (fun wb hxb hCb K hK => ?_)
          go_simp
          refine hK _ _ (Below.alloc hCb hCb.size _) (fun _ => ?_)
          clear hK K
          refine late_free (by kernel_rfl) rfl rfl (fun wd hxd K hK => ?_)
          have Eb := Ext.trans (ext_cls hCa) hxb
          have Ed := Ext.trans (Ext.trans Eb (ext_alloc _ _)) hxd
          have hsz : w.heap.size ≤ wd.heap.size := by have h1 := Ed.size; omega
          refine wp_app (base := w.heap.size) ei_ed (.tmp 21) (.tmp 32) rfl rfl (own_ext O.out Ed) rfl ((src_new wb _ [_, _, _, _] (m := 1) rfl (by intro u hu; simp only [List.mem_cons, List.not_mem_nil, or_false] at hu; rcases hu with rfl | rfl | rfl | rfl <;> rfl)).ext hxd) (by omega) hsz ?_
          intro ve we hown hg hat
          refine hK _ _ ?_
          clear hK K
          refine late_free (by kernel_rfl) rfl rfl (fun wf13 hx13 K hK => ?_)
          go_simp
          refine hK _ _ ?_
          clear hK K
          refine late_nil (fun w3 hxz => ?_)
          have EN := Ext.trans hx13 hxz
          obtain ⟨A3, cap3, hve⟩ := own_form hown
          clear cCx cCy cDx cDy p0 p1
          replace E := Lib.hid (Ext.trans (Below.grown (Ext.trans E.out Ed) hg (by have := hsz; omega) (fun k hk => by have := (O.out.lt k hk).1; omega)) EN)
          replace P := Lib.hid (((P.out.ext Ed).grownNe (own_ext O.out Ed) (by decide) hg).ext EN)
          have lP := P.out.lt
          have heq : fs ++ [(p, q)] = (fs ++ [(p, q)]) := rfl
          replace O : Hid (Has w3 w.heap.size 68 4 (.slice A3 ((fs ++ [(p, q)])).length cap3) ((fs ++ [(p, q)])).length (((fs ++ [(p, q)])).flatMap edC)) := Lib.hid (by
            have q := own_ext hown EN
            rw [hve] at q
            rw [← heq, List.flatMap_append, List.length_append]
            exact q)
          have hvf : ve = .slice A3 ((fs ++ [(p, q)])).length cap3 := by rw [hve, ← heq, List.length_append]; rfl
          clear hve
          clear hown hg hat heq EN Ed Eb hsz hCa hCb hxb hxd hxz hx13
          subst hvf
          have p0 := P.out.cell_of (i := 0) rfl
          have p1 := P.out.cell_of (i := 1) rfl
          clear g1 g2
          go_wp2
          go_roundw
          case rel => exact ⟨j + 1, A3, cap3, _, by omega, by go_num, rfl, Hst.out, O.out, E.out⟩
          case measure => simp [intOf]; omega
        · have hj' : j = r.length := by omega
          have Hf : Hid (fs = edgesS (rs.take (k + 1))) := Lib.hid (by rw [← Hn.out, Hfs.out, hj', List.take_of_length_le (by rw [edgesL_len]; exact Nat.le_refl _)])
          clear hj'
          go_wp2
          go_roundw
          case rel => exact ⟨k + 1, A2, cap2, fs, by omega, by go_num, rfl, Hf.out, O.out, E.out⟩
          case measure => simp [intOf]; omega
    · have hk' : k = rs.length := by omega
      have Hf : Hid (es = edgesS rs) := Lib.hid (by rw [Hes.out, hk', List.take_length])
      clear hk'
      go_wp2
      go_ret
      exact ⟨A1, cap1, ret_sl (by rw [Hf.out]), by rw [← Hf.out]; exact own_in edC_len (by decide) O.out (fun _ => rfl), E.out⟩
end Go.Proofs.Yteknlifgejpjfaa
