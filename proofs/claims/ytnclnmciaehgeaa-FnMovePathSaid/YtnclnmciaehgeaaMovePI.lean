/-
  Paths moved: the program's walk.
-/
import Derived.Test.YtnclnmciaehgeaaMovePS
import Derived.Test.YtnclnmciaehgeaaPath
namespace Go.Proofs.Ytnclnmciaehgeaa
open Go Go.RowKit Reg
attribute [local go_sem] calmAt calmUpon
set_option maxRecDepth 100000 in
set_option maxHeartbeats 4000000 in
theorem c_iMovePath (A : Option Addr) (cap : Nat) (vs : List Vb) (s t : Int) (w : World) (h : VbK w A vs) (hl : vs.length ≤ 1000000000) (hs : ∀ v ∈ vs, v.2.length ≤ 1000000000) :
    Calls Try.prog 22 #[.slice A vs.length cap, .int .i64 s, .int .i64 t] w (RetMvV w (movedV s t vs)) := by
  obtain ⟨R, hR⟩ : ∃ R, movedV s t vs = R := ⟨_, rfl⟩
  rw [hR]
  obtain ⟨d1, hd1⟩ : ∃ d, pathOk vs = d := ⟨_, rfl⟩
  obtain ⟨d2, hd2⟩ : ∃ d, inB s (-1000) 1000 = d := ⟨_, rfl⟩
  obtain ⟨d3, hd3⟩ : ∃ d, inB t (-1000) 1000 = d := ⟨_, rfl⟩
  have HR : Hid (R = if (d1 && d2 && d3 && movesOk s t vs) = true then (vs.map (mvV s t), true) else ([], false)) := Lib.hid (by rw [← hR]; unfold movedV movedVB; rw [hd1, hd2, hd3])
  have H := Lib.hid h
  have HP := Lib.hid h
  have KV := Lib.hid (fun W hW => c_iValidPath A cap vs W hW hl hs)
  have H1 := Lib.hid hd1
  have H2 := Lib.hid hd2
  have H3 := Lib.hid hd3
  have E := Lib.hid (Below.refl w.heap.size w)
  clear h hR hd1 hd2 hd3 hl hs
  have hno : Hid (∀ b, (d1 && d2 && d3 && movesOk s t vs) = b → b = false → R = ([], false)) := Lib.hid (fun b h1 h2 => by rw [HR.out, h1, h2]; rfl)
  go_enter Try.func22, Try.ntmps22
  go_wp2_with fail
  refine (KV.out _ H.out.toV).mono ?_
  rw [H1.out]
  rintro e w1 ⟨rfl, hb⟩
  replace E := Lib.hid (Ext.trans E.out hb)
  replace H := Lib.hid (H.out.ext verbK_stab hb)
  clear hb
  cases d1
  · have Hf := Lib.hid (hno.out _ rfl (by simp))
    go_wp2
    go_ret2
    rw [Hf.out]; exact retMvV_nil E.out
  · go_wp2_with fail
    refine (c_isUnit s _).mono ?_
    rw [H2.out]
    rintro e w' ⟨rfl, rfl⟩
    cases d2
    · have Hf := Lib.hid (hno.out _ rfl (by simp))
      go_wp2
      go_ret2
      rw [Hf.out]; exact retMvV_nil E.out
    · go_wp2_with fail
      refine (c_isUnit t _).mono ?_
      rw [H3.out]
      rintro e w' ⟨rfl, rfl⟩
      cases d3
      · have Hf := Lib.hid (hno.out _ rfl (by simp))
        go_wp2
        go_ret2
        rw [Hf.out]; exact retMvV_nil E.out
      · have hto := pathOk_to H1.out
        have hn30 := hto.2
        have Hto := Lib.hid hto.1
        have hzw : w.heap.size ≤ w1.heap.size := E.out.size
        have HW := Lib.hid (fun W (hW : Below w.heap.size w W) => HP.out.ext verbK_stab hW)
        have hmk := fun W => run_make_fill ei_vb (fun _ : Vb => [Value.int .i64 0, nilSV]) vs (by omega) W
        have hz : fillC (fun _ : Vb => [Value.int .i64 0, nilSV]) [.int .i64 0, nilSV] vs 0 = (List.replicate vs.length [Value.int .i64 0, nilSV]).flatten := by simp [fillC]
        have Hz := Lib.hid hz
        obtain ⟨us, hus⟩ : ∃ us, us = vs.map (mvV s t) := ⟨_, rfl⟩
        have Hus := Lib.hid hus
        have hul : us.length = vs.length := by rw [hus, List.length_map]
        have Hul := Lib.hid hul
        have Hsb := Lib.hid (inB_iff.1 H2.out)
        have Htb := Lib.hid (inB_iff.1 H3.out)
        clear hto hz hus hul
        go_wp2_with fail
        go_loopw [9, 10, 29] (fun _ _ i wr => ∃ (k : Nat) (ss : List Value), k ≤ vs.length ∧ i = .int .i64 k ∧ OVb wr w.heap.size 33 31 (.slice (some ⟨w1.heap.size, 0, none⟩) vs.length vs.length) (vbTo us k) ss ∧ Below w.heap.size w wr) (fun _ _ i _ => vs.length - (intOf i).toNat)
        case atStart => exact ⟨0, _, Nat.zero_le _, rfl, by rw [vbTo_zero, Hul.out, Hz.out]; exact OVb.made (Row.new w1 31 _) hzw (by omega), Ext.trans E.out (ext_alloc _ _)⟩
        case round =>
          obtain ⟨k, ss, hk, rfl, hov, hbw⟩ := hrel
          have X := Lib.hid hbw
          have C := Lib.hid hov
          have hzr : w.heap.size ≤ wr.heap.size := hbw.size
          clear hbw hov hmk
          by_cases hlt : k < vs.length
          · obtain ⟨b, off, hA, hb0, hc⟩ := (HW.out wr X.out).vbk (by omega)
            subst hA
            obtain ⟨Av, capv, cx, cy, hp, hsk⟩ := hc k hlt
            have Hp := Lib.hid hp
            have Hsk := Lib.hid hsk
            obtain ⟨_, f2, f3, _⟩ := vbOk_facts (Hto.out k hlt) hlt
            have h40 := psB_len f3
            have F3 := Lib.hid f3
            have hkI : decide ((k : Int) < (vs.length : Int)) = true := by simp; omega
            have hkI2 : (k : Int) < (vs.length : Int) := by omega
            have hku : k < us.length := by rw [Hul.out]; exact hlt
            have Hset := Lib.hid (vbTo_set hku)
            have Huk : Hid (us[k] = mvV s t vs[k]) := Lib.hid (by simp only [Hus.out]; exact mvV_get _)
            have Hlen := Lib.hid (vbTo_len (vs := us) (k := k) (by omega))
            rw [Huk.out] at Hset
            clear hc hp hsk f2 f3 Huk
            generalize vs[k] = vk at *
            obtain ⟨q, ps⟩ := vk
            dsimp only at cx cy Hp F3 h40 Hsk
            have hgw : w1.heap.size < wr.heap.size := (C.out.out.lt _ rfl).2
            have RV := Row.new wr 31 [Value.int .i64 q, .slice Av ps.length capv]
            have cV0 := RV.cell_of (i := 0) rfl
            have cV1 := RV.cell_of (i := 1) rfl
            clear RV
            go_wp2_with fail
            clear cx cy
            refine wp_region_calm [0,1,2,3,4,5,6,7] [8,9,10,11] (by kernel_rfl) (by kernel_rfl) ?_
            iterate 8 ((refine calm_yes rfl rfl (fun w' hC => (by have cV0 := hC.cell cV0; have cV1 := hC.cell cV1; go_simp; rfl)) (fun K hK => ?_); go_simp; refine hK _ ?_; clear hK K))
            refine calm_nil (fun wa hCa => ?_)
            refine late_keep rfl rfl hCa (fun wb hxb hCb K hK => ?_)
            clear cV0 cV1
            have Eb : Ext wr wb := Ext.trans (Ext.trans (ext_alloc wr _) (ext_cls hCa)) hxb
            have hzb : wr.heap.size ≤ wb.heap.size := Eb.size
            go_simp
            refine (c_moved Av capv ps s t wb (Hp.out.ext ptR_stab Eb) Hsk.out F3.out Hsb.out Htb.out).mono ?_
            rintro e w2 ⟨A2, rfl, ho2, hb2⟩
            go_simp
            refine hK _ _ (Cls.ext hCb hb2) (fun hCc => ?_)
            clear hK K
            refine late_keep rfl rfl hCc (fun w3 hx3 hCd K hK => ?_)
            go_simp
            refine hK _ _ hCd (fun hCe => ?_)
            clear hK K
            have Hmn := Lib.hid (moveL_len s t ps)
            have E3 : Ext wr w3 := Ext.trans (Ext.trans Eb hb2) hx3
            refine late_keep rfl rfl hCe (fun w4 hx4 hCf K hK => ?_)
            go_simp
            refine hK _ _ hCf (fun hCg => ?_)
            clear hK K
            refine late_free (by kernel_rfl) rfl rfl (fun w5 hx5 K hK => ?_)
            have E5 : Ext wr w5 := Ext.trans (Ext.trans E3 hx4) hx5
            have C1 : Hid (OVb w5 w.heap.size 33 31 (.slice (some ⟨w1.heap.size, 0, none⟩) (vbTo us k).length vs.length) (vbTo us k) ss) := Lib.hid (by rw [Hlen.out, Hul.out]; exact C.out.ext E5)
            have hjm : k < (vbTo us k).length := by rw [Hlen.out]; exact hku
            obtain ⟨z0, z1⟩ := zipC_get C1.out.len hjm
            have hzl := zipC_len C1.out.len
            have hn2 := C1.out.out.1
            have c0 := (C1.out.out.cellAt (k * 2) (by omega)).trans z0
            have c1 := (C1.out.out.cellAt (k * 2 + 1) (by omega)).trans z1
            have f0 := C1.out.out.frozenAt (k * 2)
            have f1 := C1.out.out.frozenAt (k * 2 + 1)
            have O := Lib.hid (C1.out.put (k := k) (B' := wb.heap.size) (q := q) (ps := moveL s t ps) TP_ne_TV hjm (by rw [Hmn.out]; exact own_ext ho2 (Ext.trans (Ext.trans hx3 hx4) hx5)) (by omega) (fun i hi b hb => by have := (C.out.blk i hi b hb).2; omega))
            have O2 : Hid (OVb ((w5.setCell ⟨w1.heap.size, k * 2, none⟩ (.int .i64 q)).setCell ⟨w1.heap.size, k * 2 + 1, none⟩ (.slice A2 ps.length ps.length)) w.heap.size 33 31 (.slice (some ⟨w1.heap.size, 0, none⟩) vs.length vs.length) (vbTo us (k + 1)) (ss.set k (.slice A2 ps.length ps.length))) := Lib.hid (by
              have h := O.out
              rw [Hlen.out, Hul.out] at h
              have h2 := Hset.out
              unfold mvV at h2
              rw [← h2]; exact h)
            have X5 := Lib.hid (((Ext.trans X.out E5).setCell (p := ⟨w1.heap.size, k * 2, none⟩) hzw (.int .i64 q)).setCell (p := ⟨w1.heap.size, k * 2 + 1, none⟩) hzw (.slice A2 ps.length ps.length))
            clear z0 z1 hzl hn2 O ho2 hb2 hCa hCb hCc hCd hCe hCf hCg hx3 hx4 hx5 hxb Eb E3 E5
            go_simp
            refine hK _ _ ?_
            clear hK K c0 c1 f0 f1
            refine late_nil (fun wz hxz => ?_)
            have O3 := Lib.hid (O2.out.ext hxz)
            have X6 := Lib.hid (Ext.trans X5.out hxz)
            clear hxz O2 X5
            go_wp2
            go_roundw
            case rel => exact ⟨k + 1, _, by omega, by go_num, O3.out, X6.out⟩
            case measure => simp [intOf]; omega
          · have hkk : k = vs.length := by omega
            have hkI : decide ((k : Int) < (vs.length : Int)) = false := by simp; omega
            have hkI2 : ¬ (k : Int) < (vs.length : Int) := by omega
            have C2 : Hid (OVb wr w.heap.size 33 31 (.slice (some ⟨w1.heap.size, 0, none⟩) us.length vs.length) us ss) := Lib.hid (by
              have h := C.out
              have e : k = us.length := by rw [Hul.out]; exact hkk
              rw [e, vbTo_all] at h
              rw [Hul.out]; exact h)
            have KV2 := Lib.hid (c_iValidPath (some ⟨w1.heap.size, 0, none⟩) vs.length us wr C2.out.in_ (by rw [Hul.out]; omega) (fun v hv => by
              rw [Hus.out] at hv
              obtain ⟨u, hu, rfl⟩ := List.mem_map.1 hv
              obtain ⟨i, hi, rfl⟩ := List.getElem_of_mem hu
              have := psB_len (vbOk_facts (Hto.out i hi) hi).2.2.1
              have e := moveL_len s t vs[i].2
              simp only [mvV]; omega))
            have hpk : pathOk us = movesOk s t vs := by rw [Hus.out]; exact pathOk_moved H1.out
            rw [hpk, Hul.out] at KV2
            have HR2 : Hid (R = if movesOk s t vs = true then (us, true) else ([], false)) := Lib.hid (by rw [HR.out, Hus.out]; simp)
            obtain ⟨d4, hd4⟩ : ∃ d, movesOk s t vs = d := ⟨_, rfl⟩
            rw [hd4] at KV2 HR2
            have O4 := Lib.hid C2.out
            clear hkk hpk hd4
            go_wp2_with fail
            refine (KV2.out).mono ?_
            rintro e w5 ⟨rfl, hb⟩
            replace X := Lib.hid (Ext.trans X.out hb)
            replace O4 := Lib.hid ((O4.out.ext hb))
            clear hb
            cases d4
            · have Hf : Hid (R = ([], false)) := Lib.hid (by rw [HR2.out]; rfl)
              go_wp2
              go_ret2
              rw [Hf.out]; exact retMvV_nil X.out
            · have Hf : Hid (R = (us, true)) := Lib.hid (by rw [HR2.out]; rfl)
              go_wp2
              go_ret2
              rw [Hf.out]
              exact ⟨_, vs.length, ss, by simp only [Hul.out]; rfl, O4.out, X.out⟩
end Go.Proofs.Ytnclnmciaehgeaa
