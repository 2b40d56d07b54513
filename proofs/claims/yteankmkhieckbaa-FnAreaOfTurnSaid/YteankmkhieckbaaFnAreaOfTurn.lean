/- The area of polygons stays if the first point of each is put behind all others, whatever the bytes that the polygons are drawn from. -/
import Derived.Test.YteankmkhieckbaaTurn
import Derived.Test.YteankmkhieckbaaGenT
import Derived.Test.YteankmkhieckbaaAreaS
import Derived.Test.YteankmkhieckbaaOpen
namespace Go.Proofs.Yteankmkhieckbaa.fnAreaOfTurn
open Go Go.RowKit Go.ChangeShapes Go.WideShapes Go.ChangeAt Go.Deep Reg
attribute [local go_sem] calmAt calmUpon


theorem own : ownKnob Try.prog.godebug = none := by kernel_rfl
theorem laidOut : laidOutB Try.prog = true := by kernel_rfl

set_option maxRecDepth 100000 in
set_option maxHeartbeats 8000000 in
theorem walk (A : Option Addr) (cap : Nat) (bs : List Int) (w : World) (h : In byteR 1 w A bs) (hlc : bs.length ≤ cap) (hcm : cap ≤ maxLen) :
    Calls Try.prog 5 #[.slice A bs.length cap] w fun e w' => e = .returned (.bool true) ∧ Below w.heap.size w w' := by
  unfold maxLen at hcm
  by_cases hn : bs.length ≤ 1048576
  · have hnI : ¬ (1048576 : Int) < (bs.length : Int) := by omega
    have K0 := Lib.hid (c_DrawAreaOf A cap bs w h hlc (by omega))
    clear h hn
    go_enter Try.func5, Try.ntmps5
    go_wp2_with fail
    refine K0.out.mono ?_
    rintro e w1 ⟨A1, cap1, rs, rfl, hal, hcap, hrs, hb⟩
    have E := Lib.hid hb
    have H := Lib.hid hrs
    have hrl := hal.1
    have Hs : Hid (∀ r ∈ rs, r.length ≤ 1000000000) := Lib.hid (fun r hr => by have := (hal.2 r hr).1; omega)
    clear hb hrs hal K0
    obtain ⟨S, hS⟩ : ∃ S, areaR rs = S := ⟨_, rfl⟩
    have HS := Lib.hid hS
    obtain ⟨d, hd⟩ : ∃ d, rgsB rs = d := ⟨_, rfl⟩
    have Hd := Lib.hid hd
    clear hS hd
    go_wp2_with fail
    refine (c_iAreaOf A1 cap1 rs _ H.out (by omega) Hs.out).mono ?_
    rw [HS.out]
    rintro e w2 ⟨rfl, hb⟩
    replace E := Lib.hid (Ext.trans E.out hb)
    replace H := Lib.hid (H.out.ext rgR_stab hb)
    clear hb
    go_wp2_with fail
    refine (c_sAreaOf A1 cap1 rs _ H.out (by omega) Hs.out).mono ?_
    rw [HS.out]
    rintro e w3 ⟨rfl, hb⟩
    replace E := Lib.hid (Ext.trans E.out hb)
    replace H := Lib.hid (H.out.ext rgR_stab hb)
    clear hb
    go_wp2_with fail
    refine (c_iValidRings A1 cap1 rs _ H.out (by omega) Hs.out).mono ?_
    rw [Hd.out]
    rintro e w4 ⟨rfl, hb⟩
    replace E := Lib.hid (Ext.trans E.out hb)
    replace H := Lib.hid (H.out.ext rgR_stab hb)
    clear hb
    cases d
    · go_wp2_with fail
      refine (c_sAreaOf A1 cap1 rs _ H.out (by omega) Hs.out).mono ?_
      rw [HS.out]
      rintro e w5 ⟨rfl, hb⟩
      replace E := Lib.hid (Ext.trans E.out hb)
      replace H := Lib.hid (H.out.ext rgR_stab hb)
      clear hb
      go_wp2
      go_ret
      exact ⟨rfl, E.out⟩

    · obtain ⟨wb, hwb⟩ : ∃ wb : World, wb = w4 := ⟨_, rfl⟩
      subst hwb
      have hr := rgsB_iff.1 Hd.out
      have Hr := Lib.hid hr.1
      have hr8 : rs.length ≤ 8 := hr.2.1
      clear hr
      have X := Lib.hid (Below.refl wb.heap.size wb)
      go_wp2_with fail
      first | refine gen_calls ?_ | refine gen_code ?_ | refine gen_list ?_
      intro w5 hW
      obtain ⟨hb, hR1⟩ := new1 hW
      clear hW
      replace X := Lib.hid (Ext.trans X.out hb)
      clear hb
      have R1 := Lib.hid hR1
      have lR1 := R1.out.lt
      clear hR1
      have O := Lib.hid (⟨rfl, own_of_row (n := 0) R1.out (Nat.le_refl _) rfl (by decide), fun i hi => by simp at hi, fun i j hi => by simp at hi⟩ : OR w5 wb.heap.size (.slice (some ⟨wb.heap.size, 0, none⟩) 0 0) [] [])
      go_wp2_with fail
      go_loopw [5, 6] (fun v i wr => ∃ (k : Nat) (A1 : Option Addr) (cap1 : Nat) (out : List Rg) (ss : List Value), k ≤ rs.length ∧ i = .int .i64 k ∧ v = .slice A1 out.length cap1 ∧ out = (rs.take k).map turnL ∧ OR wr wb.heap.size (.slice A1 out.length cap1) out ss ∧ Below wb.heap.size wb wr) (fun _ i _ => rs.length - (intOf i).toNat)
      case atStart => exact ⟨0, _, 0, [], [], Nat.zero_le _, rfl, rfl, by simp, O.out, X.out⟩
      case round =>
        obtain ⟨k, A2, cap2, out, ss, hk, rfl, rfl, hout, hor, hbw⟩ := hrel
        clear O X R1 lR1
        have O := Lib.hid hor
        have X := Lib.hid hbw
        have Hout := Lib.hid hout
        have hol : out.length ≤ k := by rw [hout]; simp; omega
        have hzr : wb.heap.size ≤ wr.heap.size := hbw.size
        clear hor hbw hout
        by_cases hlt : k < rs.length
        · obtain ⟨b, off, hA, hbw0, hc⟩ := (H.out.ext rgR_stab X.out).rgs (by omega)
          obtain ⟨A', cap', cr, hp, hle, hmx⟩ := hc k hlt
          obtain ⟨h0, hps⟩ := Hr.out _ (List.getElem_mem hlt)
          have h40 := psB_len hps
          have Hn : Hid (out ++ [rs[k].drop 1 ++ [rs[k][0]]] = (rs.take (k + 1)).map turnL) := Lib.hid (by rw [Hout.out, List.take_succ_eq_append_getElem hlt, List.map_append, List.map_cons, List.map_nil, turnL_at h0])
          have L := Lib.hid (fun i hi g hg => (O.out.old i hi g hg).2)
          obtain ⟨b1, off1, hA', _, hc1⟩ := hp.pts (by omega)
          obtain ⟨cx, cy⟩ := hc1 0 h0
          have hsub := hp.sub (cap := cap') (lo := 1) (hi := rs[k].length) (by omega) (Nat.le_refl _) hle
          rw [List.take_length] at hsub
          have hsl : ∀ W, (Instr.slice 38 (.slice A' rs[k].length cap') (some (.int .i64 1)) none none).run Try.prog W = .ok (.slice (subA A' cap' 1 2) (rs[k].length - 1) (cap' - 1)) W := fun W => run_slice_lo ei_pt _ _ _ 1 1 rfl (by omega) W
          have e : rs[k].length - 1 = (rs[k].drop 1).length := by simp
          have htl : (rs[k].drop 1).length ≤ 40 := by simp; omega
          rw [e] at hsl
          have Sr := Lib.hid (hsub.src ptC_len (fun x us h => h) ptC_one (by decide))
          have hi0 : (0 : Int) < (rs[k].length : Int) := by omega
          have hkI : (k : Int) < (rs.length : Int) := by omega
          have hkI2 : decide ((k : Int) < (rs.length : Int)) = true := by simp; omega
          simp only [Nat.zero_mul, Nat.add_zero] at cx cy
          clear hc hp hc1 hsub e hps hle hmx
          generalize rs[k].drop 1 = t at *
          generalize rs[k][0] = q at *
          generalize subA A' cap' 1 2 = As at *
          generalize rs[k].length = n at *
          obtain ⟨qx, qy⟩ := q
          dsimp only at cx cy
          subst hA hA'
          go_wp2_with fail
          refine wp_region_open [0,2,3,4,5,6,8,9,10,11,12,13] 7 (by kernel_rfl) (by kernel_rfl) ?_
          iterate 12 ((refine calm_yes rfl rfl (fun w' hC => (by have cr := hC.cell cr; have cx := hC.cell cx; have cy := hC.cell cy; go_simp; rfl)) (fun K hK => ?_); go_simp; refine hK _ ?_; clear hK K))
          refine calm_nil (fun wa hCa => ?_)
          clear cr cx cy hsl
          refine opE_two 1 14 (by kernel_rfl) ?_ ?_
          · skip
            refine stepE_keep rfl rfl hCa (fun w1' hx1 hC1 K hK => ?_)
            go_simp
            refine hK _ _ (Below.alloc hC1 hC1.size _) (fun hC2 => ?_)
            clear hK K
            have P0 := Lib.hid (own_of_row (n := 0) (B := wr.heap.size) (sz := 2) (Row.new w1' 40 []) (show wr.heap.size ≤ w1'.heap.size from hC1.size) rfl (by decide))
            refine opE_two 7 14 (by kernel_rfl) ?_ ?_
            · skip
              refine stepE_keep rfl rfl hC2 (fun w2' hx2 hC3 K hK => ?_)
              refine wp_app (base := wr.heap.size) ei_pt (.tmp 35) (.tmp 40) rfl rfl (own_ext P0.out hx2) rfl (Sr.out.ext (ext_cls hC3)) (by omega) (show wr.heap.size ≤ w2'.heap.size from hC3.size) ?_
              intro v7 w7 hown7 hg7 hat7
              refine hK _ _ (own_below (B := wr.heap.size) hC3 (own_ext P0.out hx2) hg7 hC3.size) (fun hC7 => ?_)
              clear hK K
              have P7 := Lib.hid hown7
              clear hown7 hg7 hat7
              refine opE_one 14 (by kernel_rfl) ?_
              refine stepE_keep rfl rfl hC7 (fun w8 hx8 hC8 K hK => ?_)
              go_simp
              refine hK _ _ (Below.alloc hC8 hC8.size _) (fun hCz => ?_)
              clear hK K
              have S14 := Lib.hid (src_new w8 40 [.int .i64 qx, .int .i64 qy] (m := 1) (sz := 2) rfl (by intro u hu; simp only [List.mem_cons, List.not_mem_nil, or_false] at hu; rcases hu with rfl | rfl <;> rfl))
              have PZ := Lib.hid (own_ext P7.out (Ext.trans hx8 (ext_alloc w8 (.cells [.int .i64 qx, .int .i64 qy].toArray 40))))
              refine wpE_late [15,16,17,18] _ _ _ (by kernel_rfl) ?_
              refine late_keep rfl rfl hCz (fun we hxe hCe K hK => ?_)
              refine wp_app (base := wr.heap.size) ei_pt (.tmp 41) (.tmp 48) rfl rfl (own_ext PZ.out hxe) rfl (S14.out.ext hxe) (by omega) (show wr.heap.size ≤ we.heap.size from hCe.size) ?_
              intro vf wf hownf hgf hatf
              refine hK _ _ (own_below (B := wr.heap.size) hCe (own_ext PZ.out hxe) hgf hCe.size) (fun hCf => ?_)
              clear hK K
              have e1 : 0 + t.length + 1 = (t ++ [(qx, qy)]).length := by simp
              have e2 : [] ++ t.flatMap ptC ++ [.int .i64 qx, .int .i64 qy] = (t ++ [(qx, qy)]).flatMap ptC := by simp [ptC]
              rw [e1, e2] at hownf
              obtain ⟨A6, cap6, hvf⟩ := own_form hownf
              subst hvf
              have PF := Lib.hid hownf
              clear hownf hgf hatf e1 e2
              generalize t ++ [(qx, qy)] = tt at *
              refine late_keep rfl rfl hCf (fun wg hxg hCg K hK => ?_)
              go_simp
              refine hK _ _ (Below.alloc hCg hCg.size _) (fun hCh => ?_)
              clear hK K
              refine late_free (by kernel_rfl) rfl rfl (fun wh hxh K hK => ?_)
              have hzh : wr.heap.size ≤ wh.heap.size := (ext_cls (Cls.ext hCh hxh)).size
              refine wp_app (base := wb.heap.size) ei_rg (.tmp 34) (.tmp 50) rfl rfl (own_ext O.out.out (ext_cls (Cls.ext hCh hxh))) rfl ((src_new wg _ [_] (m := 1) rfl (by intro u hu; simp only [List.mem_cons, List.not_mem_nil, or_false] at hu; subst hu; rfl)).ext hxh) (by omega) (by omega) ?_
              intro vi wi howni hgi hati
              refine hK _ _ ?_
              clear hK K
              refine late_free (by kernel_rfl) rfl rfl (fun wj hxj K hK => ?_)
              go_simp
              refine hK _ _ ?_
              clear hK K
              refine late_nil (fun wk hxk => ?_)
              have O3 : Hid (OR wk wb.heap.size vi (out ++ [tt]) (ss ++ [.slice A6 tt.length cap6])) := Lib.hid (((O.out.ext (ext_cls (Cls.ext hCh hxh))).push TP_ne_TR ((own_ext PF.out (Ext.trans (Ext.trans hxg (ext_alloc _ _)) hxh)).rebase hzr) L.out (fun g hg => (PF.out.lt g hg).1) howni hgi).ext (Ext.trans hxj hxk))
              have X3 : Hid (Below wb.heap.size wb wk) := Lib.hid (Ext.trans (own_below (Ext.trans X.out (ext_cls (Cls.ext hCh hxh))) (own_ext O.out.out (ext_cls (Cls.ext hCh hxh))) hgi (by omega)) (Ext.trans hxj hxk))
              obtain ⟨A7, cap7, hvi⟩ := own_form howni
              have hvi' : vi = .slice A7 (out ++ [tt]).length cap7 := by rw [hvi, List.length_append]; rfl
              clear howni hgi hati hvi
              subst hvi'
              clear hxj hxk
              go_wp2
              go_roundw
              case rel => exact ⟨k + 1, A7, cap7, _, _, by omega, by go_num, rfl, Hn.out, O3.out, X3.out⟩
              case measure => simp [intOf]; omega
            · skip
              refine stepE_keep rfl rfl hC2 (fun w8 hx8 hC8 K hK => ?_)
              go_simp
              refine hK _ _ (Below.alloc hC8 hC8.size _) (fun hC9 => ?_)
              clear hK K
              have S9 := Lib.hid (src_new w8 40 [.int .i64 qx, .int .i64 qy] (m := 1) (sz := 2) rfl (by intro u hu; simp only [List.mem_cons, List.not_mem_nil, or_false] at hu; rcases hu with rfl | rfl <;> rfl))
              have G9 := Lib.hid (Row.new w8 40 [.int .i64 qx, .int .i64 qy])
              have P9 := Lib.hid (own_ext P0.out (Ext.trans hx8 (ext_alloc w8 (.cells [.int .i64 qx, .int .i64 qy].toArray 40))))
              have N9 : Hid (Value.ownBlock (.slice (some ⟨w1'.heap.size, 0, none⟩) 0 0) ≠ some w8.heap.size) := Lib.hid (by
                have h1 := hx8.size
                simp only [World.size_alloc] at h1
                intro hh
                have : w1'.heap.size = w8.heap.size := by simpa [Value.ownBlock] using hh
                omega)
              refine opE_one 7 (by kernel_rfl) ?_
              refine stepE_keep rfl rfl hC9 (fun w2' hx2 hC3 K hK => ?_)
              refine wp_app (base := wr.heap.size) ei_pt (.tmp 35) (.tmp 40) rfl rfl (own_ext P9.out hx2) rfl (Sr.out.ext (ext_cls hC3)) (by omega) (show wr.heap.size ≤ w2'.heap.size from hC3.size) ?_
              intro v7 w7 hown7 hg7 hat7
              refine hK _ _ (own_below (B := wr.heap.size) hC3 (own_ext P9.out hx2) hg7 hC3.size) (fun hCz => ?_)
              clear hK K
              have PZ := Lib.hid hown7
              have GZ : Hid (Row w7 w8.heap.size 40 [.int .i64 qx, .int .i64 qy]) := Lib.hid ((hg7.block _ (G9.out.ext hx2).lt (fun hh => N9.out hh.symm)).trans (G9.out.ext hx2))
              have S14 : Hid (Src w7 (some ⟨w8.heap.size, 0, none⟩) 1 2 [.int .i64 qx, .int .i64 qy]) := Lib.hid (src_row GZ.out rfl (by intro u hu; simp only [List.mem_cons, List.not_mem_nil, or_false] at hu; rcases hu with rfl | rfl <;> rfl))
              clear hown7 hg7 hat7
              refine wpE_late [15,16,17,18] _ _ _ (by kernel_rfl) ?_
              refine late_keep rfl rfl hCz (fun we hxe hCe K hK => ?_)
              refine wp_app (base := wr.heap.size) ei_pt (.tmp 41) (.tmp 48) rfl rfl (own_ext PZ.out hxe) rfl (S14.out.ext hxe) (by omega) (show wr.heap.size ≤ we.heap.size from hCe.size) ?_
              intro vf wf hownf hgf hatf
              refine hK _ _ (own_below (B := wr.heap.size) hCe (own_ext PZ.out hxe) hgf hCe.size) (fun hCf => ?_)
              clear hK K
              have e1 : 0 + t.length + 1 = (t ++ [(qx, qy)]).length := by simp
              have e2 : [] ++ t.flatMap ptC ++ [.int .i64 qx, .int .i64 qy] = (t ++ [(qx, qy)]).flatMap ptC := by simp [ptC]
              rw [e1, e2] at hownf
              obtain ⟨A6, cap6, hvf⟩ := own_form hownf
              subst hvf
              have PF := Lib.hid hownf
              clear hownf hgf hatf e1 e2
              generalize t ++ [(qx, qy)] = tt at *
              refine late_keep rfl rfl hCf (fun wg hxg hCg K hK => ?_)
              go_simp
              refine hK _ _ (Below.alloc hCg hCg.size _) (fun hCh => ?_)
              clear hK K
              refine late_free (by kernel_rfl) rfl rfl (fun wh hxh K hK => ?_)
              have hzh : wr.heap.size ≤ wh.heap.size := (ext_cls (Cls.ext hCh hxh)).size
              refine wp_app (base := wb.heap.size) ei_rg (.tmp 34) (.tmp 50) rfl rfl (own_ext O.out.out (ext_cls (Cls.ext hCh hxh))) rfl ((src_new wg _ [_] (m := 1) rfl (by intro u hu; simp only [List.mem_cons, List.not_mem_nil, or_false] at hu; subst hu; rfl)).ext hxh) (by omega) (by omega) ?_
              intro vi wi howni hgi hati
              refine hK _ _ ?_
              clear hK K
              refine late_free (by kernel_rfl) rfl rfl (fun wj hxj K hK => ?_)
              go_simp
              refine hK _ _ ?_
              clear hK K
              refine late_nil (fun wk hxk => ?_)
              have O3 : Hid (OR wk wb.heap.size vi (out ++ [tt]) (ss ++ [.slice A6 tt.length cap6])) := Lib.hid (((O.out.ext (ext_cls (Cls.ext hCh hxh))).push TP_ne_TR ((own_ext PF.out (Ext.trans (Ext.trans hxg (ext_alloc _ _)) hxh)).rebase hzr) L.out (fun g hg => (PF.out.lt g hg).1) howni hgi).ext (Ext.trans hxj hxk))
              have X3 : Hid (Below wb.heap.size wb wk) := Lib.hid (Ext.trans (own_below (Ext.trans X.out (ext_cls (Cls.ext hCh hxh))) (own_ext O.out.out (ext_cls (Cls.ext hCh hxh))) hgi (by omega)) (Ext.trans hxj hxk))
              obtain ⟨A7, cap7, hvi⟩ := own_form howni
              have hvi' : vi = .slice A7 (out ++ [tt]).length cap7 := by rw [hvi, List.length_append]; rfl
              clear howni hgi hati hvi
              subst hvi'
              clear hxj hxk
              go_wp2
              go_roundw
              case rel => exact ⟨k + 1, A7, cap7, _, _, by omega, by go_num, rfl, Hn.out, O3.out, X3.out⟩
              case measure => simp [intOf]; omega
          · skip
            refine stepE_keep rfl rfl hCa (fun w8 hx8 hC8 K hK => ?_)
            go_simp
            refine hK _ _ (Below.alloc hC8 hC8.size _) (fun hC0 => ?_)
            clear hK K
            have S0 := Lib.hid (src_new w8 40 [.int .i64 qx, .int .i64 qy] (m := 1) (sz := 2) rfl (by intro u hu; simp only [List.mem_cons, List.not_mem_nil, or_false] at hu; rcases hu with rfl | rfl <;> rfl))
            have G0 := Lib.hid (Row.new w8 40 [.int .i64 qx, .int .i64 qy])
            refine opE_one 1 (by kernel_rfl) ?_
            refine stepE_keep rfl rfl hC0 (fun w1' hx1 hC1 K hK => ?_)
            go_simp
            refine hK _ _ (Below.alloc hC1 hC1.size _) (fun hC9 => ?_)
            clear hK K
            have P9 := Lib.hid (own_of_row (n := 0) (B := wr.heap.size) (sz := 2) (Row.new w1' 40 []) (show wr.heap.size ≤ w1'.heap.size from hC1.size) rfl (by decide))
            have S9 := Lib.hid (S0.out.ext (Ext.trans hx1 (ext_alloc w1' (.cells [].toArray 40))))
            have G9 := Lib.hid (G0.out.ext (Ext.trans hx1 (ext_alloc w1' (.cells [].toArray 40))))
            have N9 : Hid (Value.ownBlock (.slice (some ⟨w1'.heap.size, 0, none⟩) 0 0) ≠ some w8.heap.size) := Lib.hid (by
              have h1 := hx1.size
              simp only [World.size_alloc] at h1
              intro hh
              have : w1'.heap.size = w8.heap.size := by simpa [Value.ownBlock] using hh
              omega)
            refine opE_one 7 (by kernel_rfl) ?_
            refine stepE_keep rfl rfl hC9 (fun w2' hx2 hC3 K hK => ?_)
            refine wp_app (base := wr.heap.size) ei_pt (.tmp 35) (.tmp 40) rfl rfl (own_ext P9.out hx2) rfl (Sr.out.ext (ext_cls hC3)) (by omega) (show wr.heap.size ≤ w2'.heap.size from hC3.size) ?_
            intro v7 w7 hown7 hg7 hat7
            refine hK _ _ (own_below (B := wr.heap.size) hC3 (own_ext P9.out hx2) hg7 hC3.size) (fun hCz => ?_)
            clear hK K
            have PZ := Lib.hid hown7
            have GZ : Hid (Row w7 w8.heap.size 40 [.int .i64 qx, .int .i64 qy]) := Lib.hid ((hg7.block _ (G9.out.ext hx2).lt (fun hh => N9.out hh.symm)).trans (G9.out.ext hx2))
            have S14 : Hid (Src w7 (some ⟨w8.heap.size, 0, none⟩) 1 2 [.int .i64 qx, .int .i64 qy]) := Lib.hid (src_row GZ.out rfl (by intro u hu; simp only [List.mem_cons, List.not_mem_nil, or_false] at hu; rcases hu with rfl | rfl <;> rfl))
            clear hown7 hg7 hat7
            refine wpE_late [15,16,17,18] _ _ _ (by kernel_rfl) ?_
            refine late_keep rfl rfl hCz (fun we hxe hCe K hK => ?_)
            refine wp_app (base := wr.heap.size) ei_pt (.tmp 41) (.tmp 48) rfl rfl (own_ext PZ.out hxe) rfl (S14.out.ext hxe) (by omega) (show wr.heap.size ≤ we.heap.size from hCe.size) ?_
            intro vf wf hownf hgf hatf
            refine hK _ _ (own_below (B := wr.heap.size) hCe (own_ext PZ.out hxe) hgf hCe.size) (fun hCf => ?_)
            clear hK K
            have e1 : 0 + t.length + 1 = (t ++ [(qx, qy)]).length := by simp
            have e2 : [] ++ t.flatMap ptC ++ [.int .i64 qx, .int .i64 qy] = (t ++ [(qx, qy)]).flatMap ptC := by simp [ptC]
            rw [e1, e2] at hownf
            obtain ⟨A6, cap6, hvf⟩ := own_form hownf
            subst hvf
            have PF := Lib.hid hownf
            clear hownf hgf hatf e1 e2
            generalize t ++ [(qx, qy)] = tt at *
            refine late_keep rfl rfl hCf (fun wg hxg hCg K hK => ?_)
            go_simp
            refine hK _ _ (Below.alloc hCg hCg.size _) (fun hCh => ?_)
            clear hK K
            refine late_free (by kernel_rfl) rfl rfl (fun wh hxh K hK => ?_)
            have hzh : wr.heap.size ≤ wh.heap.size := (ext_cls (Cls.ext hCh hxh)).size
            refine wp_app (base := wb.heap.size) ei_rg (.tmp 34) (.tmp 50) rfl rfl (own_ext O.out.out (ext_cls (Cls.ext hCh hxh))) rfl ((src_new wg _ [_] (m := 1) rfl (by intro u hu; simp only [List.mem_cons, List.not_mem_nil, or_false] at hu; subst hu; rfl)).ext hxh) (by omega) (by omega) ?_
            intro vi wi howni hgi hati
            refine hK _ _ ?_
            clear hK K
            refine late_free (by kernel_rfl) rfl rfl (fun wj hxj K hK => ?_)
            go_simp
            refine hK _ _ ?_
            clear hK K
            refine late_nil (fun wk hxk => ?_)
            have O3 : Hid (OR wk wb.heap.size vi (out ++ [tt]) (ss ++ [.slice A6 tt.length cap6])) := Lib.hid (((O.out.ext (ext_cls (Cls.ext hCh hxh))).push TP_ne_TR ((own_ext PF.out (Ext.trans (Ext.trans hxg (ext_alloc _ _)) hxh)).rebase hzr) L.out (fun g hg => (PF.out.lt g hg).1) howni hgi).ext (Ext.trans hxj hxk))
            have X3 : Hid (Below wb.heap.size wb wk) := Lib.hid (Ext.trans (own_below (Ext.trans X.out (ext_cls (Cls.ext hCh hxh))) (own_ext O.out.out (ext_cls (Cls.ext hCh hxh))) hgi (by omega)) (Ext.trans hxj hxk))
            obtain ⟨A7, cap7, hvi⟩ := own_form howni
            have hvi' : vi = .slice A7 (out ++ [tt]).length cap7 := by rw [hvi, List.length_append]; rfl
            clear howni hgi hati hvi
            subst hvi'
            clear hxj hxk
            go_wp2
            go_roundw
            case rel => exact ⟨k + 1, A7, cap7, _, _, by omega, by go_num, rfl, Hn.out, O3.out, X3.out⟩
            case measure => simp [intOf]; omega
        · have hk' : k = rs.length := by omega
          have hkI2 : decide ((k : Int) < (rs.length : Int)) = false := by simp; omega
          have Hf : Hid (out = rs.map turnL) := Lib.hid (by rw [Hout.out, hk', List.take_length])
          have hlo : out.length ≤ 8 := by omega
          have Hso : Hid (∀ r ∈ out, r.length ≤ 1000000000) := Lib.hid (by
            rw [Hf.out]
            intro r hr
            obtain ⟨r0, h1, rfl⟩ := List.mem_map.1 hr
            rw [turnL_len]; exact Hs.out _ h1)
          have HV : Hid (areaR out = S) := Lib.hid (by rw [Hf.out, areaR_turn]; exact HS.out)
          clear hk'
          go_wp2_with fail
          refine (c_iAreaOf A2 cap2 out _ O.out.in_ (by omega) Hso.out).mono ?_
          rw [HV.out]
          rintro e w8 ⟨rfl, hb⟩
          replace X := Lib.hid (Ext.trans X.out hb)
          clear hb
          go_wp2
          go_ret
          exact ⟨rfl, Ext.trans E.out X.out⟩

  · have hnI : (1048576 : Int) < (bs.length : Int) := by omega
    clear h
    go_enter Try.func5, Try.ntmps5
    go_wp2
    go_ret
    exact ⟨rfl, Below.refl _ _⟩

theorem opens0 : Opens Try.prog 34 (slR byteR 1 ) :=  opens_slice Try.underlying34 (by kernel_rfl) (by decide) (opens_byte Try.underlying5)
set_option maxRecDepth 100000 in
theorem lifted (os : Os) (started : os.Started) (H : Type) (enc : TypeId × Value → H) :
    ReturnsInHanded {} Try.checked os 5 .any (Rows.fnAreaOfTurnSpec.pre6 enc Try.prog Try.f5 Rows.fnAreaOfTurnRow.domain false) (Rows.fnAreaOfTurnSpec.post enc Try.prog Try.f5 false true false false) := by
  refine returnsInHanded_of_change (C := Try.checked) own started (by kernel_rfl) Try.func5
    (ChangeSpec.witness6 (enc := enc) (C := Try.checked) false ⟨#[], #[.slice none 0 0], []⟩ 8 (by kernel_rfl) (by kernel_rfl) (by kernel_rfl) (by kernel_rfl)) ?_
  intro W base args ds gs before hval0 hW hcnd _
  have hval : ∀ (j : Nat) t v, Try.f5.params[j]? = some t → args[j]? = some v → Value.okWide Try.prog W .any base t v := hval0
  have hW' := hW
  obtain ⟨p, q, hA0, hV, rfl, hfz, hnd⟩ := hW
  have hA : DataW.TrodAll enc Try.prog W 0 (fun _ => true) true Try.f5.params.toList args.toList ds p := hA0
  rw [Try.params5] at hA hval
  obtain ⟨v0, vs0, d0, ds0, p0, q0, hargs, rfl, rfl, h0, r0⟩ := trodAll_cons hA
  obtain ⟨rfl, rfl, rfl⟩ := trodAll_nil r0
  obtain rfl : args = #[v0] := by cases args; simp_all
  obtain ⟨rfl, rfl, rfl⟩ := trodVars_none hV
  obtain ⟨a0, len0, cap0, rfl⟩ := okWide_slice Try.underlying34 (hval 0 34 v0 rfl rfl)
  have k0 := h0
  have lt0 : ∀ x ∈ p0, x.block < W.heap.size := by obtain ⟨m, hm⟩ := k0; exact DataW.trod_lt m _ _ _ hm
  obtain ⟨xs0, rfl, w0, wl0, wc0⟩ := open_arg rfl opens0 h0
  clear hA0 hval0
  refine (walk a0 cap0 xs0 W w0 wl0 wc0).mono fun e W' ⟨he, bel⟩ => ?_
  subst he
  exact ⟨_, rfl, _, _, _, [], _, [], hW', trodAll_mk1 (shut_bool Try.underlying4 _), (trodAll_cons_mk (Below.trod laidOut (by kernel_rfl) (of_decide_eq_true (by kernel_rfl)) k0 bel lt0) trodAll_mk0), rfl, bel.frame _, fun h => by cases h⟩
theorem over : Rows.fnAreaOfTurnRow.holds Try.pinned (OpenSpec.ofChange Rows.fnAreaOfTurnSpec) :=
  OpenClaim.holds_of_wide 5 Try.f5 rfl rfl rfl rfl rfl rfl rfl ⟨rfl, rfl, rfl, rfl, rfl⟩ rfl rfl rfl rfl rfl (by kernel_rfl) Try.func5 (by kernel_rfl)
    (of_decide_eq_true (by kernel_rfl)) (by unfold Func.isWrapper; first | (rw [if_pos (by decide +kernel)]; kernel_rfl) | (rw [if_neg (by decide +kernel)]; exact ⟨rfl, rfl⟩))
    (fun os started H enc _ => lifted os started H enc)

theorem proved : Rows.FnAreaOfTurnSaid := over

end Go.Proofs.Yteankmkhieckbaa.fnAreaOfTurn

