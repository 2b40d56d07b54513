/-
  Paths moved: the reference's walks.
-/
import Derived.Test.YtnclnmciaehgeaaMovePL
import Derived.Test.YtnclnmciaehgeaaVbPut
import Derived.Test.YtnclnmciaehgeaaPath2
import Derived.Test.YtnclnmciaehgeaaStep
import Derived.Test.YtnclnmciaehgeaaRingsL
namespace Go.Proofs.Ytnclnmciaehgeaa
open Go Go.RowKit Reg
attribute [local go_sem] calmAt calmUpon
set_option maxRecDepth 100000 in
set_option maxHeartbeats 4000000 in
theorem c_sMovePoints (A : Option Addr) (cap : Nat) (ps : List Pt) (s t : Int) (w : World) (h : Pts w A ps) (hl : ps.length ≤ 1000000000) :
    Calls Try.prog 72 #[.slice A ps.length cap, .int .i64 s, .int .i64 t] w (RetMv w (movedP s t ps)) := by
  obtain ⟨R, hR⟩ : ∃ R, movedP s t ps = R := ⟨_, rfl⟩
  rw [hR]
  obtain ⟨d1, hd1⟩ : ∃ d, psB ps = d := ⟨_, rfl⟩
  obtain ⟨d2, hd2⟩ : ∃ d, inB s (-1000) 1000 = d := ⟨_, rfl⟩
  obtain ⟨d3, hd3⟩ : ∃ d, inB t (-1000) 1000 = d := ⟨_, rfl⟩
  obtain ⟨d4, hd4⟩ : ∃ d, psB (moveL s t ps) = d := ⟨_, rfl⟩
  have HR : Hid (R = if (d1 && d2 && d3 && d4) = true then (moveL s t ps, true) else ([], false)) := Lib.hid (by rw [← hR]; unfold movedP movedB; rw [hd1, hd2, hd3, hd4])
  have H := Lib.hid h
  have H1 := Lib.hid hd1
  have H2 := Lib.hid hd2
  have H3 := Lib.hid hd3
  have H4 := Lib.hid hd4
  have E := Lib.hid (Below.refl w.heap.size w)
  have HP := Lib.hid h
  clear h hR hd1 hd2 hd3 hd4
  have hno : Hid (∀ b, (d1 && d2 && d3 && d4) = b → b = false → R = ([], false)) := Lib.hid (fun b h1 h2 => by rw [HR.out, h1, h2]; rfl)
  go_enter Try.func72, Try.ntmps72
  go_wp2_with fail
  first | refine gen_calls ?_ | refine gen_code ?_ | refine gen_list ?_
  intro w0 hW
  obtain ⟨hb, hR0⟩ := new1 hW
  clear hW
  replace E := Lib.hid (Ext.trans E.out hb)
  replace H := Lib.hid (H.out.ext ptR_stab hb)
  clear hb
  have R0 := Lib.hid hR0
  have lR0 := R0.out.lt
  clear hR0
  go_wp2_with fail
  refine (c_validPoints A cap ps _ H.out (by omega)).mono ?_
  rw [H1.out]
  rintro e w1 ⟨rfl, hb⟩
  replace E := Lib.hid (Ext.trans E.out hb)
  replace H := Lib.hid (H.out.ext ptR_stab hb)
  replace R0 := Lib.hid (R0.out.ext hb)
  have lR0 := R0.out.lt
  clear hb
  cases d1
  · have Hf := Lib.hid (hno.out _ rfl (by simp))
    go_wp2
    go_ret2
    rw [Hf.out]; exact retMv_nil E.out
  · go_wp2_with fail
    refine (c_inRange s (-1000) 1000 _).mono ?_
    rw [H2.out]
    rintro e w' ⟨rfl, rfl⟩
    cases d2
    · have Hf := Lib.hid (hno.out _ rfl (by simp))
      go_wp2
      go_ret2
      rw [Hf.out]; exact retMv_nil E.out
    · go_wp2_with fail
      refine (c_inRange t (-1000) 1000 _).mono ?_
      rw [H3.out]
      rintro e w' ⟨rfl, rfl⟩
      cases d3
      · have Hf := Lib.hid (hno.out _ rfl (by simp))
        go_wp2
        go_ret2
        rw [Hf.out]; exact retMv_nil E.out
      · have Hsb := Lib.hid (inB_iff.1 H2.out)
        have Htb := Lib.hid (inB_iff.1 H3.out)
        have h40 := psB_len H1.out
        have hzw : w.heap.size ≤ w1.heap.size := E.out.size
        have HW := Lib.hid (fun W (hW : Below w.heap.size w W) => HP.out.ext ptR_stab hW)
        have O0 := Lib.hid (own_of_row (n := 0) (B := w.heap.size) (sz := 2) R0.out (Nat.le_refl _) rfl (by decide))
        go_wp2_with fail
        go_loopw [8, 9] (fun v8 i wr => ∃ (k : Nat) (A8 : Option Addr) (cap8 : Nat) (qs : List Pt), k ≤ ps.length ∧ i = .int .i64 k ∧ v8 = .slice A8 qs.length cap8 ∧ qs = moveL s t (ps.take k) ∧ Has wr w.heap.size 33 2 (.slice A8 qs.length cap8) qs.length (qs.flatMap ptC) ∧ Below w.heap.size w wr) (fun _ i _ => ps.length - (intOf i).toNat)
        case atStart => exact ⟨0, _, 0, [], Nat.zero_le _, rfl, rfl, rfl, O0.out, E.out⟩
        case round =>
          obtain ⟨k, A8, cap8, qs, hk, rfl, rfl, hqs, ho8, hbw⟩ := hrel
          have Hqs := Lib.hid hqs
          have hql : qs.length = k := by rw [hqs, moveL_len, List.length_take]; omega
          have Hql := Lib.hid hql
          have hql2 : qs.length ≤ 40 := by omega
          have O := Lib.hid ho8
          have X := Lib.hid hbw
          have hzr : w.heap.size ≤ wr.heap.size := hbw.size
          clear hqs ho8 hbw hql O0
          by_cases hlt : k < ps.length
          · obtain ⟨b, off, hA, _, hc⟩ := (HW.out wr X.out).pts (by omega)
            subst hA
            obtain ⟨cx, cy⟩ := hc k hlt
            have Hn : Hid (qs ++ [mvP s t ps[k]] = moveL s t (ps.take (k + 1))) := Lib.hid (by rw [Hqs.out]; unfold moveL; rw [List.take_succ_eq_append_getElem hlt, List.map_append]; rfl)
            obtain ⟨⟨p1, p2⟩, p3, p4⟩ := psB_at H1.out hlt
            clear hc
            generalize ps[k] = p at *
            obtain ⟨x, y⟩ := p
            dsimp only at cx cy p1 p2 p3 p4
            obtain ⟨⟨s1, s2⟩, t1, t2⟩ := And.intro Hsb.out Htb.out
            have g1 : IntKind.i64.wrap (x + s) = x + s := IntWalk.i64_in _ (by omega)
            have g2 : IntKind.i64.wrap (y + t) = y + t := IntWalk.i64_in _ (by omega)
            have hkI : decide ((k : Int) < (ps.length : Int)) = true := by simp; omega
            have hkI2 : (k : Int) < (ps.length : Int) := by omega
            have Cx := Lib.hid cx
            have Cy := Lib.hid cy
            clear cx cy s1 s2 t1 t2 p1 p2 p3 p4
            have cCx := Cx.out
            have cCy := Cy.out
            go_wp2_with fail
            refine wp_region_calm [0,1,2,3,4,5,6,7,8,9,10,11,12,13,14,15] [16,17,18] (by kernel_rfl) (by kernel_rfl) ?_
            (refine calm_yes rfl rfl (fun w' hC => (by have cCx := hC.cell cCx; have cCy := hC.cell cCy; go_simp; rfl)) (fun K hK => ?_); go_simp; refine hK _ ?_; clear hK K)
            (refine calm_yes rfl rfl (fun w' hC => (by have cCx := hC.cell cCx; have cCy := hC.cell cCy; go_simp; rfl)) (fun K hK => ?_); go_simp; refine hK _ ?_; clear hK K)
            (refine calm_yes rfl rfl (fun w' hC => (by have cCx := hC.cell cCx; have cCy := hC.cell cCy; go_simp; rfl)) (fun K hK => ?_); go_simp; refine hK _ ?_; clear hK K)
            (refine calm_yes rfl rfl (fun w' hC => (by have cCx := hC.cell cCx; have cCy := hC.cell cCy; go_simp; rfl)) (fun K hK => ?_); go_simp; refine hK _ ?_; clear hK K)
            (refine calm_yes rfl rfl (fun w' hC => (by have cCx := hC.cell cCx; have cCy := hC.cell cCy; go_simp; rfl)) (fun K hK => ?_); go_simp; refine hK _ ?_; clear hK K)
            (refine calm_yes rfl rfl (fun w' hC => (by have cCx := hC.cell cCx; have cCy := hC.cell cCy; go_simp; rfl)) (fun K hK => ?_); go_simp; refine hK _ ?_; clear hK K)
            (refine calm_yes rfl rfl (fun w' hC => (by have cCx := hC.cell cCx; have cCy := hC.cell cCy; go_simp; rfl)) (fun K hK => ?_); go_simp; refine hK _ ?_; clear hK K)
            (refine calm_yes rfl rfl (fun w' hC => (by have cCx := hC.cell cCx; have cCy := hC.cell cCy; go_simp; rfl)) (fun K hK => ?_); go_simp; refine hK _ ?_; clear hK K)
            (refine calm_yes rfl rfl (fun w' hC => (by have cCx := hC.cell cCx; have cCy := hC.cell cCy; go_simp; rfl)) (fun K hK => ?_); go_simp; refine hK _ ?_; clear hK K)
            (refine calm_yes rfl rfl (fun w' hC => (by have cCx := hC.cell cCx; have cCy := hC.cell cCy; go_simp; rfl)) (fun K hK => ?_); go_simp; refine hK _ ?_; clear hK K)
            (refine calm_yes rfl rfl (fun w' hC => (by have cCx := hC.cell cCx; have cCy := hC.cell cCy; go_simp; rfl)) (fun K hK => ?_); go_simp; refine hK _ ?_; clear hK K)
            (refine calm_yes rfl rfl (fun w' hC => (by have cCx := hC.cell cCx; have cCy := hC.cell cCy; go_simp; rfl)) (fun K hK => ?_); go_simp; refine hK _ ?_; clear hK K)
            (refine calm_yes rfl rfl (fun w' hC => (by have cCx := hC.cell cCx; have cCy := hC.cell cCy; go_simp; rfl)) (fun K hK => ?_); go_simp; refine hK _ ?_; clear hK K)
            (refine calm_yes rfl rfl (fun w' hC => (by have cCx := hC.cell cCx; have cCy := hC.cell cCy; go_simp; rfl)) (fun K hK => ?_); go_simp; refine hK _ ?_; clear hK K)
            (refine calm_yes rfl rfl (fun w' hC => (by have cCx := hC.cell cCx; have cCy := hC.cell cCy; go_simp; rfl)) (fun K hK => ?_); go_simp; refine hK _ ?_; clear hK K)
            (refine calm_yes rfl rfl (fun w' hC => (by have cCx := hC.cell cCx; have cCy := hC.cell cCy; go_simp; rfl)) (fun K hK => ?_); go_simp; refine hK _ ?_; clear hK K)
            refine calm_nil (fun wa hCa => ?_)
            refine late_keep rfl rfl hCa (fun wb hxb hCb K hK => ?_)
            go_simp
            refine hK _ _ (Below.alloc hCb hCb.size _) (fun _ => ?_)
            clear hK K
            refine late_free (by kernel_rfl) rfl rfl (fun wd hxd K hK => ?_)
            have Eb := Ext.trans (ext_cls hCa) hxb
            have Ed := Ext.trans (Ext.trans Eb (ext_alloc _ _)) hxd
            have hsz : w.heap.size ≤ wd.heap.size := by have h1 := Ed.size; omega
            refine wp_app (base := w.heap.size) ei_pt (.tmp 30) (.tmp 46) rfl rfl (own_ext O.out Ed) rfl ((src_new wb _ [_, _] (m := 1) rfl (by intro u hu; simp only [List.mem_cons, List.not_mem_nil, or_false] at hu; rcases hu with rfl | rfl <;> rfl)).ext hxd) (by omega) hsz ?_
            intro ve we hown hg hat
            refine hK _ _ ?_
            clear hK K
            refine late_free (by kernel_rfl) rfl rfl (fun wf18 hx18 K hK => ?_)
            go_simp
            refine hK _ _ ?_
            clear hK K
            refine late_nil (fun w3 hxz => ?_)
            have EN := Ext.trans hx18 hxz
            obtain ⟨A9, cap9, hve⟩ := own_form hown
            clear cCx cCy
            replace X := Lib.hid (Ext.trans (Below.grown (Ext.trans X.out Ed) hg (by have := hsz; omega) (fun k hk => by have := (O.out.lt k hk).1; omega)) EN)
            have heq : qs ++ [mvP s t (x, y)] = (qs ++ [mvP s t (x, y)]) := rfl
            replace O : Hid (Has w3 w.heap.size 33 2 (.slice A9 ((qs ++ [mvP s t (x, y)])).length cap9) ((qs ++ [mvP s t (x, y)])).length (((qs ++ [mvP s t (x, y)])).flatMap ptC)) := Lib.hid (by
              have q := own_ext hown EN
              rw [hve] at q
              rw [← heq, List.flatMap_append, List.length_append]
              exact q)
            have hvf : ve = .slice A9 ((qs ++ [mvP s t (x, y)])).length cap9 := by rw [hve, ← heq, List.length_append]; rfl
            clear hve
            clear hown hg hat heq EN Ed Eb hsz hCa hCb hxb hxd hxz hx18
            subst hvf
            clear g1 g2
            go_wp2
            go_roundw
            case rel => exact ⟨k + 1, A9, cap9, _, by omega, by go_num, rfl, Hn.out, O.out, X.out⟩
            case measure => simp [intOf]; omega
          · have hkk : k = ps.length := by omega
            have hkI : decide ((k : Int) < (ps.length : Int)) = false := by simp; omega
            have hq : qs = moveL s t ps := by rw [Hqs.out, hkk, List.take_length]
            clear hkk
            have P : Hid (Pts wr A8 qs) := Lib.hid (own_in (enc := ptC) (R := ptR) ptC_len (by decide) O.out (fun _ => rfl))
            have Hv : Hid (psB qs = d4) := Lib.hid (by rw [hq]; exact H4.out)
            have Hq := Lib.hid hq
            clear hq
            go_wp2_with fail
            refine (c_validPoints A8 cap8 qs _ P.out (by omega)).mono ?_
            rw [Hv.out]
            rintro e w5 ⟨rfl, hb⟩
            replace X := Lib.hid (Ext.trans X.out hb)
            replace P := Lib.hid (P.out.ext ptR_stab hb)
            replace O := Lib.hid (own_ext O.out hb)
            clear hb
            cases d4
            · have Hf := Lib.hid (hno.out _ rfl (by simp))
              go_wp2
              go_ret2
              rw [Hf.out]; exact retMv_nil X.out
            · have Hf : Hid (R = (qs, true)) := Lib.hid (by rw [HR.out, Hq.out]; rfl)
              go_wp2
              go_ret2
              rw [Hf.out]
              exact ⟨A8, cap8, rfl, O.out, X.out⟩
/-- A path moved, or none, in rows of its own. -/
def RetMvV (w : World) (R : List Vb × Bool) (e : Ending) (w' : World) : Prop := ∃ A' cap' ss, e = .returned (.tuple #[.slice A' R.1.length cap', .bool R.2]) ∧ OVb w' w.heap.size 33 31 (.slice A' R.1.length cap') R.1 ss ∧ Below w.heap.size w w'
theorem retMvV_nil {w w' : World} (h : Below w.heap.size w w') : RetMvV w ([], false) (.returned (.tuple #[.slice none 0 0, .bool false])) w' := ⟨none, 0, [], rfl, OVb.nil _ _ _ _, h⟩
set_option maxRecDepth 100000 in
set_option maxHeartbeats 4000000 in
theorem c_sMovePath (A : Option Addr) (cap : Nat) (vs : List Vb) (s t : Int) (w : World) (h : Vbs w A vs) (hl : vs.length ≤ 1000000000) (hs : ∀ v ∈ vs, v.2.length ≤ 1000000000) :
    Calls Try.prog 23 #[.slice A vs.length cap, .int .i64 s, .int .i64 t] w (RetMvV w (movedV s t vs)) := by
  obtain ⟨R, hR⟩ : ∃ R, movedV s t vs = R := ⟨_, rfl⟩
  rw [hR]
  obtain ⟨d1, hd1⟩ : ∃ d, pathOk vs = d := ⟨_, rfl⟩
  obtain ⟨d2, hd2⟩ : ∃ d, inB s (-1000) 1000 = d := ⟨_, rfl⟩
  obtain ⟨d3, hd3⟩ : ∃ d, inB t (-1000) 1000 = d := ⟨_, rfl⟩
  have HR : Hid (R = if (d1 && d2 && d3 && movesOk s t vs) = true then (vs.map (mvV s t), true) else ([], false)) := Lib.hid (by rw [← hR]; unfold movedV movedVB; rw [hd1, hd2, hd3])
  have H := Lib.hid h
  have HP := Lib.hid h
  have KV := Lib.hid (fun W hW => c_sValidPath A cap vs W hW hl hs)
  have H1 := Lib.hid hd1
  have H2 := Lib.hid hd2
  have H3 := Lib.hid hd3
  have E := Lib.hid (Below.refl w.heap.size w)
  clear h hR hd1 hd2 hd3 hl hs
  have hno : Hid (∀ b, (d1 && d2 && d3 && movesOk s t vs) = b → b = false → R = ([], false)) := Lib.hid (fun b h1 h2 => by rw [HR.out, h1, h2]; rfl)
  go_enter Try.func23, Try.ntmps23
  go_wp2_with fail
  first | refine gen_calls ?_ | refine gen_code ?_ | refine gen_list ?_
  intro w0 hW
  obtain ⟨hb, hR0⟩ := new1 hW
  clear hW
  replace E := Lib.hid (Ext.trans E.out hb)
  replace H := Lib.hid (H.out.ext verbR_stab hb)
  clear hb
  have R0 := Lib.hid hR0
  have lR0 := R0.out.lt
  clear hR0
  go_wp2_with fail
  refine (KV.out _ H.out).mono ?_
  rw [H1.out]
  rintro e w1 ⟨rfl, hb⟩
  replace E := Lib.hid (Ext.trans E.out hb)
  replace H := Lib.hid (H.out.ext verbR_stab hb)
  replace R0 := Lib.hid (R0.out.ext hb)
  have lR0 := R0.out.lt
  clear hb
  cases d1
  · have Hf := Lib.hid (hno.out _ rfl (by simp))
    go_wp2
    go_ret2
    rw [Hf.out]; exact retMvV_nil E.out
  · go_wp2_with fail
    refine (c_inRange s (-1000) 1000 _).mono ?_
    rw [H2.out]
    rintro e w' ⟨rfl, rfl⟩
    cases d2
    · have Hf := Lib.hid (hno.out _ rfl (by simp))
      go_wp2
      go_ret2
      rw [Hf.out]; exact retMvV_nil E.out
    · go_wp2_with fail
      refine (c_inRange t (-1000) 1000 _).mono ?_
      rw [H3.out]
      rintro e w' ⟨rfl, rfl⟩
      cases d3
      · have Hf := Lib.hid (hno.out _ rfl (by simp))
        go_wp2
        go_ret2
        rw [Hf.out]; exact retMvV_nil E.out
      · have hto := pathOk_to H1.out
        have hn30 := hto.2
        have Hto := Lib.hid hto.1
        have hzw : w.heap.size ≤ w1.heap.size := E.out.size
        have HW := Lib.hid (fun W (hW : Below w.heap.size w W) => HP.out.ext verbR_stab hW)
        have O0 : Hid (OVb w1 w.heap.size 33 31 (.slice (some ⟨w.heap.size, 0, none⟩) 0 0) [] []) := Lib.hid ⟨rfl, own_of_row (n := 0) (B := w.heap.size) (sz := 2) R0.out (Nat.le_refl _) rfl (by decide), fun i hi => by simp at hi, fun i j hi => by simp at hi⟩
        clear hto
        go_wp2_with fail
        go_loopw [8, 9, 10, 11] (fun v8 i _ _ wr => ∃ (k : Nat) (A8 : Option Addr) (cap8 : Nat) (qs : List Vb) (ss : List Value), k ≤ vs.length ∧ i = .int .i64 k ∧ v8 = .slice A8 qs.length cap8 ∧ qs = (vs.take k).map (mvV s t) ∧ (∀ (j : Nat) (hj : j < vs.length), j < k → psB (moveL s t vs[j].2) = true) ∧ OVb wr w.heap.size 33 31 (.slice A8 qs.length cap8) qs ss ∧ Below w.heap.size w wr) (fun _ i _ _ _ => vs.length - (intOf i).toNat)
        case atStart => exact ⟨0, _, 0, [], [], Nat.zero_le _, rfl, rfl, rfl, fun j hj h0 => by omega, O0.out, E.out⟩
        case round =>
          obtain ⟨k, A8, cap8, qs, ss, hk, rfl, rfl, hqs, hall, ho8, hbw⟩ := hrel
          have Hqs := Lib.hid hqs
          have hql : qs.length ≤ k := by rw [hqs, List.length_map, List.length_take]; omega
          have O := Lib.hid ho8
          have X := Lib.hid hbw
          have Hall := Lib.hid hall
          have hzr : w.heap.size ≤ wr.heap.size := hbw.size
          clear hqs ho8 hbw O0 hall
          by_cases hlt : k < vs.length
          · obtain ⟨b, off, hA, _, hc⟩ := (HW.out wr X.out).vbs (by omega)
            subst hA
            obtain ⟨Av, capv, cx, cy, hp⟩ := hc k hlt
            have Hp := Lib.hid hp
            obtain ⟨_, f2, f3, _⟩ := vbOk_facts (Hto.out k hlt) hlt
            have h40 := psB_len f3
            have Hn : Hid (qs ++ [mvV s t vs[k]] = (vs.take (k + 1)).map (mvV s t)) := Lib.hid (by rw [Hqs.out, List.take_succ_eq_append_getElem hlt, List.map_append]; rfl)
            have Hbad : Hid (psB (moveL s t vs[k].2) = false → movesOk s t vs = false) := Lib.hid (movesOk_at hlt)
            have Hgood : Hid (psB (moveL s t vs[k].2) = true → ∀ (j : Nat) (hj : j < vs.length), j < k + 1 → psB (moveL s t vs[j].2) = true) := Lib.hid (fun hg j hj hjk => by
              by_cases hjk2 : j = k
              · subst hjk2; exact hg
              · exact Hall.out j hj (by omega))
            have F3 := Lib.hid f3
            have hkI : decide ((k : Int) < (vs.length : Int)) = true := by simp; omega
            have hkI2 : (k : Int) < (vs.length : Int) := by omega
            have Cx := Lib.hid cx
            have Cy := Lib.hid cy
            clear hc cx cy hp f2 f3
            generalize vs[k] = vk at *
            obtain ⟨q, ps⟩ := vk
            dsimp only at Cx Cy Hp F3 h40 Hbad Hgood
            obtain ⟨d4, hd4⟩ : ∃ d, psB (moveL s t ps) = d := ⟨_, rfl⟩
            have Hmv : Hid (movedP s t ps = if d4 = true then (moveL s t ps, true) else ([], false)) := Lib.hid (by unfold movedP movedB; rw [F3.out, H2.out, H3.out, hd4]; simp)
            rw [hd4] at Hbad Hgood
            clear hd4
            have Y := Lib.hid (Ext.refl wr)
            cases d4
            · have Hm0 : Hid (movedP s t ps = ([], false)) := Lib.hid (by rw [Hmv.out]; rfl)
              have Hf : Hid (R = ([], false)) := Lib.hid (by rw [HR.out, Hbad.out rfl]; rfl)
              have cCx := Cx.out
              have cCy := Cy.out
              go_wp2_with fail
              clear cCx cCy
              refine (c_sMovePoints Av capv ps s t _ Hp.out (by omega)).mono ?_
              rw [Hm0.out]
              rintro e w4 ⟨A4, cap4, rfl, ho4, hb⟩
              replace X := Lib.hid (Ext.trans X.out hb)
              replace Y := Lib.hid (Ext.trans Y.out hb)
              replace O := Lib.hid ((O.out.ext hb))
              replace Cx := Lib.hid (Cls.cell hb Cx.out)
              replace Cy := Lib.hid (Cls.cell hb Cy.out)
              replace Hp := Lib.hid (Hp.out.ext ptR_stab hb)
              clear hb
              have cCx := Cx.out
              have cCy := Cy.out
              clear ho4
              go_wp2
              go_ret2
              rw [Hf.out]; exact retMvV_nil X.out
            · have Hg2 := Lib.hid (Hgood.out rfl)
              clear Hgood Hbad
              have Hm1 : Hid (movedP s t ps = (moveL s t ps, true)) := Lib.hid (by rw [Hmv.out]; rfl)
              have Hmn := Lib.hid (moveL_len s t ps)
              have O0 := Lib.hid O.out
              have cCx := Cx.out
              have cCy := Cy.out
              go_wp2_with fail
              clear cCx cCy
              refine (c_sMovePoints Av capv ps s t _ Hp.out (by omega)).mono ?_
              rw [Hm1.out]
              rintro e w4 ⟨A4, cap4, rfl, ho4, hb⟩
              replace X := Lib.hid (Ext.trans X.out hb)
              replace Y := Lib.hid (Ext.trans Y.out hb)
              replace O := Lib.hid ((O.out.ext hb))
              replace Cx := Lib.hid (Cls.cell hb Cx.out)
              replace Cy := Lib.hid (Cls.cell hb Cy.out)
              replace Hp := Lib.hid (Hp.out.ext ptR_stab hb)
              clear hb
              have P4 := Lib.hid (ho4)
              clear ho4
              have cCx := Cx.out
              have cCy := Cy.out
              have hz4 : w.heap.size ≤ w4.heap.size := X.out.size
              have hnew : Hid (mvV s t (q, ps) = (q, moveL s t ps)) := Lib.hid rfl
              rw [hnew.out] at Hn
              clear hnew
              generalize moveL s t ps = ms at *
              go_wp2_with (at_builtin; refine wpList_app (base := w.heap.size) ei_vb rfl (.tmp 45) (.tmp 53) rfl rfl (own_ext O.out.out (ext_alloc _ _)) rfl (src_new _ _ [_, _] (m := 1) rfl (by intro u hu; simp only [List.mem_cons, List.not_mem_nil, or_false] at hu; rcases hu with rfl | rfl <;> rfl)) (by omega) (by simp; omega) ?_; intro ve we hown hg hat; refine stop_in ?_)
              refine stop_out ?_
              obtain ⟨A6, cap6, hve⟩ := own_form hown
              have O6 : Hid (OVb we w.heap.size 33 31 ve (qs ++ [(q, ms)]) (ss ++ [.slice A4 ms.length cap4])) := Lib.hid (O0.out.push TP_ne_TV (Ext.trans Y.out (ext_alloc _ _)) ((own_ext P4.out (ext_alloc _ _)).rebase hzr) (fun g hg => (P4.out.lt g hg).1) hown hg)
              have hve' : ve = .slice A6 (qs ++ [(q, ms)]).length cap6 := by rw [hve, List.length_append]; rfl
              have X6 := Lib.hid (own_below (Ext.trans X.out (ext_alloc _ _)) (own_ext O.out.out (ext_alloc _ _)) hg (by simp; omega))
              clear hown hg hat hve
              subst hve'
              go_wp2
              go_roundw
              case rel => exact ⟨k + 1, A6, cap6, qs ++ [(q, ms)], _, by omega, by go_num, rfl, Hn.out, Hg2.out, O6.out, X6.out⟩
              case measure => simp [intOf]; omega
          · have hkk : k = vs.length := by omega
            have hkI : decide ((k : Int) < (vs.length : Int)) = false := by simp; omega
            have hq : qs = vs.map (mvV s t) := by rw [Hqs.out, hkk, List.take_length]
            have hm : movesOk s t vs = true := movesOk_all fun j hj => Hall.out j hj (by omega)
            have Hf : Hid (R = (qs, true)) := Lib.hid (by rw [HR.out, hm, hq]; rfl)
            clear hkk hq hm
            go_wp2
            go_ret2
            rw [Hf.out]
            exact ⟨A8, cap8, ss, rfl, O.out, X.out⟩
end Go.Proofs.Ytnclnmciaehgeaa
