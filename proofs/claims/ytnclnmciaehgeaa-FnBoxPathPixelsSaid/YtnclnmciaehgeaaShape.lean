/-
  Paths of polygons: the walks of poly and polygon, BoxPath, RhombPath.
-/
import Derived.Test.YtnclnmciaehgeaaVerb
namespace Go.Proofs.Ytnclnmciaehgeaa
open Go Go.RowKit Reg
attribute [local go_sem] calmAt calmUpon
theorem ei_vb : EI Try.prog 23 31 (.agg #[.int .i64 0, .slice none 0 0]) [.int .i64 0, .slice none 0 0] 32 := ei_mk Try.underlying23 (by kernel_rfl) rfl (by decide) (by decide)
set_option maxRecDepth 100000 in
set_option maxHeartbeats 1000000 in
theorem c_poly (A : Option Addr) (cap : Nat) (ps : List Pt) (w : World) (h : Pts w A ps) (hl : ps.length ≤ 1000) :
    Calls Try.prog 91 #[.slice A ps.length cap] w fun e w' => ∃ A' cap' ss, e = .returned (.slice A' (ps.length + 1) cap') ∧ OVb w' w.heap.size 33 31 (.slice A' (ps.length + 1) cap') (polyV ps ++ [(4, [])]) ss ∧ Below w.heap.size w w' := by
  go_enter Try.func91, Try.ntmps91
  go_wp2
  go_loopw [3, 4] (fun v i wr => ∃ (k : Nat) (ss : List Value), k ≤ ps.length ∧ i = .int .i64 k ∧ OVb wr w.heap.size 33 31 v (polyV (ps.take k)) ss ∧ Below w.heap.size w wr) (fun _ i _ => ps.length - (intOf i).toNat)
  case atStart => exact ⟨0, [], Nat.zero_le _, rfl, ⟨rfl, own_of_row (n := 0) (cs := []) (Row.new w _ []) (Nat.le_refl _) rfl (by decide), fun i hi => by simp [polyV] at hi, fun i j hi => by simp at hi⟩, (by repeat (first | exact Below.refl _ _ | assumption | refine Below.drew ?_ | refine Below.alloc ?_ (by first | exact Nat.le_refl _ | omega | (simp; done) | (simp; omega)) _ | refine Below.setCell ?_ (by first | exact Nat.le_refl _ | omega | (simp; done) | (simp; omega)) _))⟩
  case round =>
    obtain ⟨k, ss, hk, rfl, how, hbw⟩ := hrel
    by_cases hlt : k < ps.length
    · obtain ⟨b, off, rfl, _hb, hc⟩ := (h.ext ptR_stab hbw).pts (by omega)
      obtain ⟨cx, cy⟩ := hc k hlt
      have How := Lib.hid how
      clear hc h how
      go_wp2_with fail
      have f1 : (k : Int) < (ps.length : Int) := by omega
      refine wp_region_calm [0,1,2,3,4,5,6,7] [8,9,10,11,12] (by kernel_rfl) (by kernel_rfl) ?_
      iterate 3 ((refine calm_yes rfl rfl (fun w' hC => (by go_simp; rfl)) (fun K hK => ?_); go_simp; refine hK _ ?_; clear hK K))
      (apply calm_call rfl rfl rfl Try.func131 (by kernel_rfl) rfl (by go_simp; rfl); exact (fun w' hC => ext_of_same (c_toInt _ w')); intro K hK; go_simp; refine hK _ ?_; clear hK K)
      iterate 4 ((refine calm_yes rfl rfl (fun w' hC => (by have cx := hC.cell cx; have cy := hC.cell cy; go_simp; rfl)) (fun K hK => ?_); go_simp; refine hK _ ?_; clear hK K))
      refine calm_nil (fun w2 hC2 => ?_)
      refine late_keep rfl rfl hC2 (fun w3 hx3 hC3 K hK => ?_)
      go_simp
      refine hK _ _ (Below.alloc hC3 hC3.size _) (fun hC4 => ?_)
      clear hK K
      refine late_keep rfl rfl hC4 (fun w5 hx5 hC5 K hK => ?_)
      go_simp
      refine hK _ _ hC5 (fun hC6 => ?_)
      clear hK K
      refine late_keep rfl rfl hC5 (fun w6 hx6 hC6 K hK => ?_)
      go_simp
      refine hK _ _ (Below.alloc hC6 hC6.size _) (fun hC7 => ?_)
      clear hK K
      refine late_free (by kernel_rfl) rfl rfl (fun w7 hx7 K hK => ?_)
      have E2 := ext_cls hC2
      have E3 := Ext.trans E2 hx3
      have E5 := Ext.trans (Ext.trans E3 (ext_alloc _ _)) hx5
      have E6 := Ext.trans E5 hx6
      have E7 := Ext.trans (Ext.trans E6 (ext_alloc _ _)) hx7
      refine wp_app (base := w.heap.size) ei_vb (.tmp 12) (.tmp 22) rfl rfl (own_ext How.out.out E7) rfl ((src_new w6 _ [_, _] (m := 1) rfl (by intro u hu; simp at hu; rcases hu with rfl | rfl <;> rfl)).ext hx7) (by rw [polyV_len, List.length_take]; omega) (by have := hbw.size; have := E7.size; omega) ?_
      intro v8 w8 hown8 hg8 hat8
      refine hK _ _ ?_
      clear hK K
      refine late_free (by kernel_rfl) rfl rfl (fun w9 hx9 K hK => ?_)
      go_simp
      refine hK _ _ ?_
      clear hK K
      refine late_nil (fun w10 hx10 => ?_)
      have hz := hbw.size
      have hs : Row w7 w3.heap.size 33 ([ps[k]].flatMap ptC) := ((Row.new w3 33 [.int .i64 ps[k].1, .int .i64 ps[k].2]).ext (Ext.trans hx5 (Ext.trans hx6 (Ext.trans (ext_alloc _ _) hx7))))
      have hso := own_of_row (B := w.heap.size) (sz := 2) (n := 1) hs (by have := E3.size; omega) rfl (by decide)
      have hov := OVb.snoc (x := (if 0 < k then 1 else 0, [ps[k]])) (How.out.ext E7) hso TP_ne_TV (fun i hi => by
        have hil : i < (polyV (ps.take k)).length := by rw [← How.out.len]; exact hi
        have hlt2 := (How.out.inn i hil).lt
        have hne : ∀ g, ss[i].ownBlock = some g → g ≠ w3.heap.size := fun g hg => by have := (hlt2 g hg).2; have := E3.size; omega
        refine ⟨?_, ?_⟩
        · cases hc : ss[i].ownBlock with
          | none => exact .inl rfl
          | some g => exact .inr (by simp [Value.ownBlock]; exact hne g hc)
        · refine .inr ?_
          simp only [Value.ownBlock]
          intro heq
          exact hne _ heq.symm rfl) hown8 hg8
      rw [← polyV_take hlt] at hov
      have hbf := own_below (Ext.trans hbw E7) (own_ext How.out.out E7) hg8 (by have := E7.size; omega)
      have Hov := Lib.hid (hov.ext (Ext.trans hx9 hx10))
      have hbf10 := Below.trans hbf (Below.mono (Ext.trans hx9 hx10) (by have := hbf.size; omega))
      clear hov hown8 hg8 hat8 hs hso hbf hx9 hx10 hx3 hx5 hx6 hx7 E2 E3 E5 E6 E7 hC2 hC3 hC4 hC5 hC6 hC7 How f1 cx cy
      go_wp2_with fail
      go_roundw
      case rel => exact ⟨k + 1, _, by omega, by go_num, Hov.out, hbf10⟩
      case measure => simp [intOf]; omega
    · obtain rfl : k = ps.length := by omega
      rw [List.take_length] at how
      have How := Lib.hid how
      have hz := hbw.size
      have hpl := polyV_len ps
      clear h how
      go_wp2_with (at_builtin; refine wpList_app ei_vb rfl (.tmp 24) (.tmp 26) rfl rfl (own_ext How.out.out (ext_alloc _ _)) rfl (src_new wr _ [_, _] (m := 1) rfl (by intro u hu; simp at hu; rcases hu with rfl | rfl <;> rfl)) (by omega) (by simp; omega) ?_; intro v2 w3 hown3 hg3 hat3)
      obtain ⟨A2, cap2, hv2⟩ := own_form hown3
      have hbf := own_below (Ext.trans hbw (ext_alloc wr _)) (own_ext How.out.out (ext_alloc wr _)) hg3 (by simp; omega)
      have hov := OVb.snoc (x := (4, [])) (How.out.ext (ext_alloc wr _)) (own_nil _ _ _ _) TP_ne_TV (fun i hi => ⟨by
        cases hc : ss[i].ownBlock with
        | none => exact .inl rfl
        | some g => exact .inr (by simp [Value.ownBlock]), .inl rfl⟩) hown3 hg3
      subst hv2
      go_wp2
      go_ret
      refine ⟨A2, cap2, ss ++ [.slice none 0 0], ?_, ?_, hbf⟩
      · show Ending.returned (.slice A2 ((polyV ps).length + 1) cap2) = _
        rw [hpl]
      · rw [hpl] at hov; exact hov
end Go.Proofs.Ytnclnmciaehgeaa
