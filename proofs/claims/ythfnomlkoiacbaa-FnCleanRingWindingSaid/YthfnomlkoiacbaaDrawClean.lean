/-
  Polygons drawn for CleanRing: the walk.
-/
import Derived.Test.YthfnomlkoiacbaaGen
namespace Go.Proofs.Ythfnomlkoiacbaa
open Go Go.RowKit Reg
attribute [local go_sem] calmAt calmUpon
/-- Points in a row of one's own. -/
def OwnPts (w w' : World) (e : Ending) (P : List Pt → Prop) : Prop := ∃ A cap, ∃ ps : List Pt, e = .returned (.slice A ps.length cap) ∧ P ps ∧ Has w' w.heap.size 30 2 (.slice A ps.length cap) ps.length (ps.flatMap ptC) ∧ Below w.heap.size w w'
set_option maxRecDepth 100000 in
set_option maxHeartbeats 4000000 in
theorem c_DrawCleanRing (A : Option Addr) (cap : Nat) (bs : List Int) (w : World) (h : In byteR 1 w A bs) (hc : bs.length ≤ cap) (hl : cap ≤ 9223372036854775807) :
    Calls Try.prog 5 #[.slice A bs.length cap] w fun e w' => OwnPts w w' e (fun ps => ps.length ≤ 1000) := by
  go_enter Try.func5, Try.ntmps5
  go_wp2_with fail
  refine (c_newReader A cap bs w h hc hl).mono ?_
  rintro e w1 ⟨g, rfl, hg0, hr1, hb1⟩
  have R1 := Lib.hid hr1
  have B1 := Lib.hid hb1
  clear hr1 hb1 h
  go_wp2_with fail
  refine (c_anyPoints g 0 w1 R1.out (by omega)).mono ?_
  rintro e w2 ⟨A2, cap2, qs, rfl, hall, hlen, ho2, hr2, hg2⟩
  have R2 := Lib.hid hr2
  have B2 := Lib.hid (below_grown B1.out hg2 hg0 B1.out.size)
  have O2 := Lib.hid ho2
  have hgl : g < w2.heap.size := R2.out.lt
  clear hr2 hg2 ho2
  have Hall := Lib.hid hall
  clear hall
  go_wp2_with fail
  go_loopw [5, 6] (fun v i wr => ∃ (k : Nat) (A : Option Addr) (cap : Nat) (ps : List Pt), i = .int .i64 k ∧ v = .slice A ps.length cap ∧ k ≤ qs.length ∧ ps.length ≤ 3 * k ∧ Has wr w2.heap.size 30 2 v ps.length (ps.flatMap ptC) ∧ Rdr wr g (100 + 2 * k) ∧ w2.grownBy wr (some g)) (fun _ i _ => qs.length - (intOf i).toNat)
  case atStart => exact ⟨0, _, 0, [], rfl, rfl, by omega, by simp, own_of_row (n := 0) (cs := []) (Row.new w2 30 []) (Nat.le_refl _) rfl (by decide), R2.out.ext (ext_alloc _ _), grown_ext (ext_alloc _ _)⟩
  case round =>
    obtain ⟨k, A3, cap3, ps, rfl, rfl, hk, hpl, how, hrd, hgr⟩ := hrel
    have How := Lib.hid how
    have Hrd := Lib.hid hrd
    have Hgr := Lib.hid hgr
    have hzr : w2.heap.size ≤ wr.heap.size := hgr.size
    clear how hrd hgr
    by_cases hlt : k < qs.length
    · have hq := Hall.out _ (List.getElem_mem hlt)
      have P : ∀ W, w2.grownBy W (some g) → Pts W A2 qs := fun W hW => own_in (R := ptR) (enc := ptC) ptC_len (by decide) (O2.out.keptR R2.out PT_ne_RD hW) (fun _ => rfl)
      have HP := Lib.hid P
      obtain ⟨b, off, rfl, _, hc⟩ := (P wr Hgr.out).pts (by omega)
      obtain ⟨cx, cy⟩ := hc k hlt
      have hne : ¬ qs = [] := by intro hh; subst hh; simp at hlt
      clear P hc
      -- the point itself
      go_wp2_with (at_builtin; refine wpList_app ei_pt rfl (.tmp 18) (.tmp 23) rfl rfl (own_ext How.out (ext_alloc _ _)) rfl (src_new wr _ [_, _] (m := 1) rfl (by intro u hu; simp at hu; rcases hu with rfl | rfl <;> rfl)) (by omega) (by simp; omega) ?_; intro v4 w4 hown4 hg4 hat4)
      obtain ⟨A4, cap4, hv4⟩ := own_form hown4
      have R4 := Lib.hid ((Hrd.out.ext (ext_alloc _ _)).grown hg4 (fun k hk => by have := (How.out.lt k hk).1; omega))
      have G4 := Lib.hid (grown_own (grown_alloc Hgr.out _) hg4 (fun k hk => (How.out.lt k hk).1))
      have O4 : Hid (Has w4 w2.heap.size 30 2 v4 (ps ++ [qs[k]]).length ((ps ++ [qs[k]]).flatMap ptC)) := Lib.hid (by rw [List.flatMap_append, List.length_append]; exact hown4)
      have hl4 : (ps ++ [qs[k]]).length ≤ ps.length + 1 := by simp
      have hv4' : v4 = .slice A4 (ps ++ [qs[k]]).length cap4 := by rw [hv4]; simp
      generalize ps ++ [qs[k]] = ps4 at *
      clear hown4 hg4 hat4 hv4
      subst hv4'
      go_wp2_with fail
      refine (c_pick g _ 4 w4 R4.out (by omega)).mono ?_
      rintro e w5 ⟨v5, rfl, _, hr5, hg5⟩
      have R5 := Lib.hid hr5
      have G5 := Lib.hid (grown_trans G4.out hg5)
      have O5 := Lib.hid (O4.out.keptR R4.out PT_ne_RD hg5)
      have hz5 : w2.heap.size ≤ w5.heap.size := G5.out.size
      clear hr5 hg5 cx cy
      by_cases hv5 : v5 = 0
      · have hb5 : (v5 == 0) = true := by simp [hv5]
        clear hv5
        obtain ⟨b', off', hbb, _, hc⟩ := (HP.out w5 G5.out).pts (by omega)
        cases hbb
        obtain ⟨cx, cy⟩ := hc k hlt
        clear hc
        go_wp2_with (at_builtin; refine wpList_app ei_pt rfl (.tmp 28) (.tmp 33) rfl rfl (own_ext O5.out (ext_alloc _ _)) rfl (src_new w5 _ [_, _] (m := 1) rfl (by intro u hu; simp at hu; rcases hu with rfl | rfl <;> rfl)) (by omega) (by simp; omega) ?_; intro v6 w6 hown6 hg6 hat6)
        obtain ⟨A6, cap6, hv6⟩ := own_form hown6
        have R6 := Lib.hid ((R5.out.ext (ext_alloc _ _)).grown hg6 (fun k hk => by have := (O5.out.lt k hk).1; omega))
        have G6 := Lib.hid (grown_own (grown_alloc G5.out _) hg6 (fun k hk => (O5.out.lt k hk).1))
        have O6 : Hid (Has w6 w2.heap.size 30 2 v6 (ps4 ++ [qs[k]]).length ((ps4 ++ [qs[k]]).flatMap ptC)) := Lib.hid (by rw [List.flatMap_append, List.length_append]; exact hown6)
        have hl6 : (ps4 ++ [qs[k]]).length ≤ ps.length + 2 := by simp; omega
        have hv6' : v6 = .slice A6 (ps4 ++ [qs[k]]).length cap6 := by rw [hv6]; simp
        generalize ps4 ++ [qs[k]] = ps6 at *
        clear hown6 hg6 hat6 hv6 cx cy
        subst hv6'
        go_wp2_with fail
        refine (c_pick g _ 3 w6 R6.out (by omega)).mono ?_
        rintro e w7 ⟨v7, rfl, _, hr7, hg7⟩
        have R7 := Lib.hid hr7
        have G7 := Lib.hid (grown_trans G6.out hg7)
        have O7 := Lib.hid (O6.out.keptR R6.out PT_ne_RD hg7)
        have hz7 : w2.heap.size ≤ w7.heap.size := G7.out.size
        clear hr7 hg7
        by_cases hv7 : v7 = 0 ∧ k + 1 < qs.length
        · obtain ⟨hv7, hlt2⟩ := hv7
          have hb7 : (v7 == 0) = true := by simp [hv7]
          have hltI : (k : Int) + 1 < (qs.length : Int) := by omega
          clear hv7
          obtain ⟨b', off', hbb, _, hc⟩ := (HP.out w7 G7.out).pts (by omega)
          cases hbb
          obtain ⟨cx, cy⟩ := hc k hlt
          obtain ⟨cx2, cy2⟩ := hc (k + 1) hlt2
          have hq2 := Hall.out _ (List.getElem_mem hlt2)
          clear hc
          generalize qs[k] = p1 at *
          generalize qs[k + 1] = p2 at *
          have f1 : IntKind.i64.wrap ((k : Int) + 1) = (k : Int) + 1 := IntWalk.i64_in _ (by omega)
          have e1 : ((k : Int) + 1).toNat = k + 1 := by omega
          have i0 : (0 : Int) ≤ (k : Int) + 1 := by omega
          have HF := Lib.hid (And.intro f1 e1)
          clear f1 e1
          go_wp2_with fail
          obtain ⟨f1, e1⟩ := HF.out
          have hmc := midL_crd hq hq2
          have Hm := Lib.hid (fun W => c_middle p1 p2 W hq hq2)
          clear hq hq2 hmc
          refine wp_region_calm [0,1,2,3,4,5,6,7,8,9,10] [11,12,13] (by kernel_rfl) (by kernel_rfl) ?_
          iterate 10 ((refine calm_yes rfl rfl (fun w' hC => (by have cx := hC.cell cx; have cy := hC.cell cy; have cx2 := hC.cell cx2; have cy2 := hC.cell cy2; go_simp; rfl)) (fun K hK => ?_); go_simp; refine hK _ ?_; clear hK K))
          (apply calm_call rfl rfl rfl Try.func16 (by kernel_rfl) rfl (by go_simp; rfl); exact (fun w' hC => Hm.out w'); intro K hK; go_simp; refine hK _ ?_; clear hK K)
          generalize midL p1 p2 = pm at *
          refine calm_nil (fun w8 hC8 => ?_)
          refine late_keep rfl rfl hC8 (fun w9 hx9 hC9 K hK => ?_)
          go_simp
          refine hK _ _ (Below.alloc hC9 hC9.size _) (fun hC10 => ?_)
          clear hK K
          refine late_free (by kernel_rfl) rfl rfl (fun w11 hx11 K hK => ?_)
          have E9 : Ext w7 w9 := Ext.trans (ext_cls hC8) hx9
          have E11 : Ext w7 w11 := Ext.trans (Ext.trans E9 (ext_alloc _ _)) hx11
          refine wp_app (base := w2.heap.size) ei_pt (.tmp 45) (.tmp 56) rfl rfl (own_ext O7.out E11) rfl ((src_new w9 _ [_, _] (m := 1) rfl (by intro u hu; simp at hu; rcases hu with rfl | rfl <;> rfl)).ext hx11) (by omega) (by have := E11.size; omega) ?_
          intro v12 w12 hown12 hg12 hat12
          refine hK _ _ ?_
          clear hK K
          refine late_free (by kernel_rfl) rfl rfl (fun w13 hx13 K hK => ?_)
          go_simp
          refine hK _ _ ?_
          clear hK K
          refine late_nil (fun w14 hx14 => ?_)
          have E14 := Ext.trans hx13 hx14
          obtain ⟨A12, cap12, hv12⟩ := own_form hown12
          have R14 := Lib.hid (((R7.out.ext E11).grown hg12 (fun k hk => by have := (O7.out.lt k hk).1; omega)).ext E14)
          have G14 := Lib.hid (only_ext (grown_own (only_ext G7.out E11) hg12 (fun k hk => (O7.out.lt k hk).1)) E14)
          have O14 : Hid (Has w14 w2.heap.size 30 2 v12 (ps6 ++ [pm]).length ((ps6 ++ [pm]).flatMap ptC)) := Lib.hid (by rw [List.flatMap_append, List.length_append]; exact own_ext hown12 E14)
          have hl14 : (ps6 ++ [pm]).length ≤ ps.length + 3 := by simp; omega
          have hv12' : v12 = .slice A12 (ps6 ++ [pm]).length cap12 := by rw [hv12]; simp
          generalize ps6 ++ [pm] = ps14 at *
          clear hown12 hg12 hat12 hv12 hx13 hx14 hx9 hx11 E9 E11 E14 hC8 hC9 hC10 cx cy cx2 cy2 f1 e1
          subst hv12'
          go_wp2
          go_roundw
          case rel => exact ⟨k + 1, A12, cap12, ps14, by go_num, rfl, by omega, by omega, O14.out, R14.out.mono (by omega), G14.out⟩
          case measure => simp [intOf]; omega
        · have hb7 : (v7 == 0) = false ∨ ((v7 == 0) = true ∧ ¬ (k : Int) + 1 < (qs.length : Int)) := by
            by_cases h7 : v7 = 0
            · right; exact ⟨by simp [h7], by omega⟩
            · left; simp [h7]
          clear hv7
          rcases hb7 with hb7 | ⟨hb7, hltI⟩
          all_goals
            go_wp2
            go_roundw
            case rel => exact ⟨k + 1, _, _, ps6, by go_num, rfl, by omega, by omega, O7.out, R7.out.mono (by omega), G7.out⟩
            case measure => simp [intOf]; omega
      · have hb5 : (v5 == 0) = false := by simp [hv5]
        clear hv5
        go_wp2_with fail
        refine (c_pick g _ 3 w5 R5.out (by omega)).mono ?_
        rintro e w7 ⟨v7, rfl, _, hr7, hg7⟩
        have R7 := Lib.hid hr7
        have G7 := Lib.hid (grown_trans G5.out hg7)
        have O7 := Lib.hid (O5.out.keptR R5.out PT_ne_RD hg7)
        have hz7 : w2.heap.size ≤ w7.heap.size := G7.out.size
        clear hr7 hg7
        by_cases hv7 : v7 = 0 ∧ k + 1 < qs.length
        · obtain ⟨hv7, hlt2⟩ := hv7
          have hb7 : (v7 == 0) = true := by simp [hv7]
          have hltI : (k : Int) + 1 < (qs.length : Int) := by omega
          clear hv7
          obtain ⟨b', off', hbb, _, hc⟩ := (HP.out w7 G7.out).pts (by omega)
          cases hbb
          obtain ⟨cx, cy⟩ := hc k hlt
          obtain ⟨cx2, cy2⟩ := hc (k + 1) hlt2
          have hq2 := Hall.out _ (List.getElem_mem hlt2)
          clear hc
          generalize qs[k] = p1 at *
          generalize qs[k + 1] = p2 at *
          have f1 : IntKind.i64.wrap ((k : Int) + 1) = (k : Int) + 1 := IntWalk.i64_in _ (by omega)
          have e1 : ((k : Int) + 1).toNat = k + 1 := by omega
          have i0 : (0 : Int) ≤ (k : Int) + 1 := by omega
          have HF := Lib.hid (And.intro f1 e1)
          clear f1 e1
          go_wp2_with fail
          obtain ⟨f1, e1⟩ := HF.out
          have hmc := midL_crd hq hq2
          have Hm := Lib.hid (fun W => c_middle p1 p2 W hq hq2)
          clear hq hq2 hmc
          refine wp_region_calm [0,1,2,3,4,5,6,7,8,9,10] [11,12,13] (by kernel_rfl) (by kernel_rfl) ?_
          iterate 10 ((refine calm_yes rfl rfl (fun w' hC => (by have cx := hC.cell cx; have cy := hC.cell cy; have cx2 := hC.cell cx2; have cy2 := hC.cell cy2; go_simp; rfl)) (fun K hK => ?_); go_simp; refine hK _ ?_; clear hK K))
          (apply calm_call rfl rfl rfl Try.func16 (by kernel_rfl) rfl (by go_simp; rfl); exact (fun w' hC => Hm.out w'); intro K hK; go_simp; refine hK _ ?_; clear hK K)
          generalize midL p1 p2 = pm at *
          refine calm_nil (fun w8 hC8 => ?_)
          refine late_keep rfl rfl hC8 (fun w9 hx9 hC9 K hK => ?_)
          go_simp
          refine hK _ _ (Below.alloc hC9 hC9.size _) (fun hC10 => ?_)
          clear hK K
          refine late_free (by kernel_rfl) rfl rfl (fun w11 hx11 K hK => ?_)
          have E9 : Ext w7 w9 := Ext.trans (ext_cls hC8) hx9
          have E11 : Ext w7 w11 := Ext.trans (Ext.trans E9 (ext_alloc _ _)) hx11
          refine wp_app (base := w2.heap.size) ei_pt (.tmp 45) (.tmp 56) rfl rfl (own_ext O7.out E11) rfl ((src_new w9 _ [_, _] (m := 1) rfl (by intro u hu; simp at hu; rcases hu with rfl | rfl <;> rfl)).ext hx11) (by omega) (by have := E11.size; omega) ?_
          intro v12 w12 hown12 hg12 hat12
          refine hK _ _ ?_
          clear hK K
          refine late_free (by kernel_rfl) rfl rfl (fun w13 hx13 K hK => ?_)
          go_simp
          refine hK _ _ ?_
          clear hK K
          refine late_nil (fun w14 hx14 => ?_)
          have E14 := Ext.trans hx13 hx14
          obtain ⟨A12, cap12, hv12⟩ := own_form hown12
          have R14 := Lib.hid (((R7.out.ext E11).grown hg12 (fun k hk => by have := (O7.out.lt k hk).1; omega)).ext E14)
          have G14 := Lib.hid (only_ext (grown_own (only_ext G7.out E11) hg12 (fun k hk => (O7.out.lt k hk).1)) E14)
          have O14 : Hid (Has w14 w2.heap.size 30 2 v12 (ps4 ++ [pm]).length ((ps4 ++ [pm]).flatMap ptC)) := Lib.hid (by rw [List.flatMap_append, List.length_append]; exact own_ext hown12 E14)
          have hl14 : (ps4 ++ [pm]).length ≤ ps.length + 3 := by simp; omega
          have hv12' : v12 = .slice A12 (ps4 ++ [pm]).length cap12 := by rw [hv12]; simp
          generalize ps4 ++ [pm] = ps14 at *
          clear hown12 hg12 hat12 hv12 hx13 hx14 hx9 hx11 E9 E11 E14 hC8 hC9 hC10 cx cy cx2 cy2 f1 e1
          subst hv12'
          go_wp2
          go_roundw
          case rel => exact ⟨k + 1, A12, cap12, ps14, by go_num, rfl, by omega, by omega, O14.out, R14.out.mono (by omega), G14.out⟩
          case measure => simp [intOf]; omega
        · have hb7 : (v7 == 0) = false ∨ ((v7 == 0) = true ∧ ¬ (k : Int) + 1 < (qs.length : Int)) := by
            by_cases h7 : v7 = 0
            · right; exact ⟨by simp [h7], by omega⟩
            · left; simp [h7]
          clear hv7
          rcases hb7 with hb7 | ⟨hb7, hltI⟩
          all_goals
            go_wp2
            go_roundw
            case rel => exact ⟨k + 1, _, _, ps4, by go_num, rfl, by omega, by omega, O7.out, R7.out.mono (by omega), G7.out⟩
            case measure => simp [intOf]; omega
    · obtain rfl : k = qs.length := by omega
      go_wp2_with fail
      go_ret
      exact ⟨A3, cap3, ps, rfl, by omega, How.out.rebase B2.out.size, below_grown B2.out Hgr.out hg0 B2.out.size⟩
end Go.Proofs.Ythfnomlkoiacbaa
