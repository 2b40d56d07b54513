/-
  slices.Reverse of points of one's own.
-/
import Derived.Test.YtnclnmciaehgeaaCurveI
namespace Go.Proofs.Ytnclnmciaehgeaa
open Go Go.RowKit Reg
attribute [local go_sem] calmAt calmUpon RegG.calmAt RegG.calmUpon
set_option maxRecDepth 100000 in
set_option maxHeartbeats 4000000 in
theorem c_Reverse {B : Nat} {A : Option Addr} {cap : Nat} {ps : List Pt} {w : World} (h : Has w B 33 2 (.slice A ps.length cap) ps.length (ps.flatMap ptC)) (hn : ps.length ≤ 1000000) :
    Calls Try.prog 163 #[.slice A ps.length cap] w fun e w' => e = .returned (.tuple #[]) ∧ Has w' B 33 2 (.slice A ps.length cap) ps.length (ps.reverse.flatMap ptC) ∧ w.grownBy w' (Value.slice A ps.length cap).ownBlock := by
  have H := Lib.hid h
  obtain ⟨n, hnn⟩ : ∃ n, n = ps.length := ⟨_, rfl⟩
  clear h
  go_enter Try.func163, Try.ntmps163
  go_wp2_with fail
  go_loopw [2, 3] (fun i j wr => ∃ (k : Nat), 2 * k ≤ ps.length + 1 ∧ i = .int .i64 k ∧ j = .int .i64 ((ps.length : Int) - 1 - k) ∧ Has wr B 33 2 (.slice A ps.length cap) ps.length ((revK ps k).flatMap ptC) ∧ w.grownBy wr (Value.slice A ps.length cap).ownBlock) (fun i _ _ => ps.length + 2 - 2 * (intOf i).toNat)
  case atStart => exact ⟨0, by omega, rfl, by go_num, by rw [revK_zero]; exact H.out, only_refl _ _⟩
  case round =>
    obtain ⟨k, hk, rfl, rfl, how, hgw⟩ := hrel
    by_cases hlt : 2 * k + 1 < ps.length
    · obtain ⟨g, rfl, hg0, hg⟩ := own_at how (by omega)
      obtain ⟨jj, hjj⟩ : ∃ jj, jj = ps.length - 1 - k := ⟨_, rfl⟩
      have ej : (ps.length : Int) - 1 - (k : Int) = (jj : Int) := by omega
      have hrl := revK_len ps k
      have hkl : k < (revK ps k).length := by omega
      have hjl : jj < (revK ps k).length := by omega
      have fx := flat_get ptC_len (revK ps k) [] k hkl 0 (by omega)
      have fy := flat_get ptC_len (revK ps k) [] k hkl 1 (by omega)
      have gx := flat_get ptC_len (revK ps k) [] jj hjl 0 (by omega)
      have gy := flat_get ptC_len (revK ps k) [] jj hjl 1 (by omega)
      rw [List.append_nil] at fx fy gx gy
      have Hs : Hid (((revK ps k).set k (revK ps k)[jj]).set jj (revK ps k)[k] = revK ps (k + 1)) := Lib.hid (by
        have := revK_succ hlt
        subst hjj
        exact this)
      have hjk : jj ≠ k := by omega
      have hs1 := flat_set ptC_len (revK ps k) hkl (revK ps k)[jj]
      have hs2 := flat_set ptC_len ((revK ps k).set k (revK ps k)[jj]) (show jj < ((revK ps k).set k (revK ps k)[jj]).length by rw [List.length_set]; exact hjl) (revK ps k)[k]
      have hml : jj < ((revK ps k).set k (revK ps k)[jj]).length := by rw [List.length_set]; exact hjl
      have mx := flat_get ptC_len ((revK ps k).set k (revK ps k)[jj]) [] jj hml 0 (by omega)
      have my := flat_get ptC_len ((revK ps k).set k (revK ps k)[jj]) [] jj hml 1 (by omega)
      rw [List.append_nil, List.getElem_set_ne (by omega)] at mx my
      have Hc : Hid (∀ W, Has W B 33 2 (.slice (some ⟨g, 0, none⟩) ps.length cap) ps.length ((revK ps k).flatMap ptC) →
          (W.cell? ⟨g, k * 2, none⟩ = some (.int .i64 (revK ps k)[k].1) ∧ W.cell? ⟨g, k * 2 + 1, none⟩ = some (.int .i64 (revK ps k)[k].2) ∧ W.cell? ⟨g, jj * 2, none⟩ = some (.int .i64 (revK ps k)[jj].1) ∧ W.cell? ⟨g, jj * 2 + 1, none⟩ = some (.int .i64 (revK ps k)[jj].2)) ∧
          Has ((W.setCell ⟨g, k * 2, none⟩ (.int .i64 (revK ps k)[jj].1)).setCell ⟨g, k * 2 + 1, none⟩ (.int .i64 (revK ps k)[jj].2)) B 33 2 (.slice (some ⟨g, 0, none⟩) ps.length cap) ps.length (((revK ps k).set k (revK ps k)[jj]).flatMap ptC)) := Lib.hid (fun W hW => by
        refine ⟨⟨(hW.cellAt _ (by omega)).trans fx, (hW.cellAt _ (by omega)).trans fy, (hW.cellAt _ (by omega)).trans gx, (hW.cellAt _ (by omega)).trans gy⟩, ?_⟩
        have st := ((hW.stored (k * 2) (.int .i64 (revK ps k)[jj].1)).1.stored (k * 2 + 1) (.int .i64 (revK ps k)[jj].2)).1
        rw [hs1] at st
        exact st)
      have Hd : Hid (∀ W, Has W B 33 2 (.slice (some ⟨g, 0, none⟩) ps.length cap) ps.length (((revK ps k).set k (revK ps k)[jj]).flatMap ptC) →
          (W.cell? ⟨g, jj * 2, none⟩ = some (.int .i64 (revK ps k)[jj].1) ∧ W.cell? ⟨g, jj * 2 + 1, none⟩ = some (.int .i64 (revK ps k)[jj].2)) ∧ Has ((W.setCell ⟨g, jj * 2, none⟩ (.int .i64 (revK ps k)[k].1)).setCell ⟨g, jj * 2 + 1, none⟩ (.int .i64 (revK ps k)[k].2)) B 33 2 (.slice (some ⟨g, 0, none⟩) ps.length cap) ps.length ((revK ps (k + 1)).flatMap ptC)) := Lib.hid (fun W hW => by
        have st := ((hW.stored (jj * 2) (.int .i64 (revK ps k)[k].1)).1.stored (jj * 2 + 1) (.int .i64 (revK ps k)[k].2)).1
        rw [hs2, Hs.out] at st
        exact ⟨⟨(hW.cellAt _ (by omega)).trans mx, (hW.cellAt _ (by omega)).trans my⟩, st⟩)
      have O := Lib.hid how
      have G := Lib.hid hgw
      have hkI : (k : Int) < (ps.length : Int) := by omega
      have hjI : (jj : Int) < (ps.length : Int) := by omega
      have hkjI : (k : Int) < (jj : Int) := by omega
      clear how hgw fx fy gx gy mx my hml hs1 hs2 Hs hrl
      generalize (revK ps k).set k (revK ps k)[jj] = ml at *
      generalize (revK ps k)[k] = p at *
      generalize (revK ps k)[jj] = q at *
      clear hkl hjl
      obtain ⟨px, py⟩ := p
      obtain ⟨qx, qy⟩ := q
      dsimp only at Hc Hd
      rw [ej]
      have Ej := Lib.hid ej
      clear ej
      have Hjj := Lib.hid hjj
      clear hjj
      go_wp2_with fail
      refine RegG.wp_region_open (fun i => i = g) [0,1,2,3,4,5,6,8,9,10] 6 (by kernel_rfl) (by kernel_rfl) ?_
      iterate 10 ((refine RegG.calm_yes rfl rfl (fun w' hC => (by skip; go_simp; rfl)) (fun K hK => ?_); go_simp; refine hK _ ?_; clear hK K))
      refine RegG.calm_nil ?_
      refine RegG.opE_two 7 11 (by kernel_rfl) ?_ ?_
      · skip
        refine RegG.stepE_keep rfl rfl (RegG.Cls.refl _) (fun w1 hx1 hC1 K hK => ?_)
        have O1 := own_ext O.out (ext_cls hx1)
        obtain ⟨⟨c0, c1, d0, d1⟩, _⟩ := Hc.out _ O1
        go_simp
        refine hK _ _ hC1 (fun hC2 => ?_)
        clear hK K c0 c1 d0 d1
        refine RegG.opE_one 11 (by kernel_rfl) ?_
        refine RegG.stepE_keep rfl rfl hC2 (fun w2 hx2 hC3 K hK => ?_)
        have O2 := own_ext O1 hx2
        obtain ⟨⟨c0, c1, d0, d1⟩, _⟩ := Hc.out _ O2
        go_simp
        refine hK _ _ hC3 (fun hC4 => ?_)
        clear hK K c0 c1 d0 d1
        refine RegG.opE_one 12 (by kernel_rfl) ?_
        refine RegG.stepE_keep rfl rfl hC4 (fun wq hxq hCq K hK => ?_)
        go_simp
        refine hK _ _ hCq (fun hCr => ?_)
        clear hK K
        refine RegG.opE_one 13 (by kernel_rfl) ?_
        refine RegG.stepE_keep rfl rfl hCr (fun w3 hx3 hC5 K hK => ?_)
        have O3 := own_ext O2 (Ext.trans hxq hx3)
        obtain ⟨⟨c0, c1, d0, d1⟩, ho4⟩ := Hc.out _ O3
        have f0 := O3.frozenAt (k * 2)
        have f1 := O3.frozenAt (k * 2 + 1)
        go_simp
        refine hK _ _ ((hC5.set (p := ⟨g, k * 2, none⟩) (Eq.refl g) _).set (p := ⟨g, k * 2 + 1, none⟩) (Eq.refl g) _) (fun hC6 => ?_)
        clear hK K c0 c1 d0 d1 f0 f1
        refine RegG.opE_one 14 (by kernel_rfl) ?_
        refine RegG.stepE_keep rfl rfl hC6 (fun w4 hx4 hC7 K hK => ?_)
        go_simp
        refine hK _ _ hC7 (fun hC8 => ?_)
        clear hK K
        refine RegG.opE_one 15 (by kernel_rfl) ?_
        refine RegG.stepE_keep rfl rfl hC8 (fun w5 hx5 hC9 K hK => ?_)
        have O5 := own_ext ho4 (Ext.trans hx4 hx5)
        obtain ⟨⟨d0, d1⟩, ho6⟩ := Hd.out _ O5
        have f2 := O5.frozenAt (jj * 2)
        have f3 := O5.frozenAt (jj * 2 + 1)
        go_simp
        refine hK _ _ ((hC9.set (p := ⟨g, jj * 2, none⟩) (Eq.refl g) _).set (p := ⟨g, jj * 2 + 1, none⟩) (Eq.refl g) _) (fun hC10 => ?_)
        clear hK K f2 f3 d0 d1
        refine ⟨by kernel_rfl, fun w6 hx6 => ?_⟩
        have O6 := Lib.hid (own_ext ho6 hx6)
        have G6 : Hid (w.grownBy w6 (some g)) := Lib.hid (only_ext (only_set (only_set (only_ext (only_ext (only_set (only_set (only_ext (only_ext (only_ext G.out (ext_cls hx1)) hx2) (Ext.trans hxq hx3)) _ _) _ _) hx4) hx5) _ _) _ _) hx6)
        clear O1 O2 O3 O5 ho4 ho6 hxq hCq hCr hx1 hx2 hx3 hx4 hx5 hx6 hC1 hC2 hC3 hC4 hC5 hC6 hC7 hC8 hC9 hC10
        go_wp2
        go_roundw
        case rel => exact ⟨k + 1, by omega, by go_num, by have := Hjj.out; go_num, O6.out, G6.out⟩
        case measure => simp [intOf]; omega
      · skip
        refine RegG.stepE_keep rfl rfl (RegG.Cls.refl _) (fun w1 hx1 hC1 K hK => ?_)
        have O1 := own_ext O.out (ext_cls hx1)
        obtain ⟨⟨c0, c1, d0, d1⟩, _⟩ := Hc.out _ O1
        go_simp
        refine hK _ _ hC1 (fun hC2 => ?_)
        clear hK K c0 c1 d0 d1
        refine RegG.opE_one 7 (by kernel_rfl) ?_
        refine RegG.stepE_keep rfl rfl hC2 (fun w2 hx2 hC3 K hK => ?_)
        have O2 := own_ext O1 hx2
        obtain ⟨⟨c0, c1, d0, d1⟩, _⟩ := Hc.out _ O2
        go_simp
        refine hK _ _ hC3 (fun hC4 => ?_)
        clear hK K c0 c1 d0 d1
        refine RegG.opE_one 12 (by kernel_rfl) ?_
        refine RegG.stepE_keep rfl rfl hC4 (fun wq hxq hCq K hK => ?_)
        go_simp
        refine hK _ _ hCq (fun hCr => ?_)
        clear hK K
        refine RegG.opE_one 13 (by kernel_rfl) ?_
        refine RegG.stepE_keep rfl rfl hCr (fun w3 hx3 hC5 K hK => ?_)
        have O3 := own_ext O2 (Ext.trans hxq hx3)
        obtain ⟨⟨c0, c1, d0, d1⟩, ho4⟩ := Hc.out _ O3
        have f0 := O3.frozenAt (k * 2)
        have f1 := O3.frozenAt (k * 2 + 1)
        go_simp
        refine hK _ _ ((hC5.set (p := ⟨g, k * 2, none⟩) (Eq.refl g) _).set (p := ⟨g, k * 2 + 1, none⟩) (Eq.refl g) _) (fun hC6 => ?_)
        clear hK K c0 c1 d0 d1 f0 f1
        refine RegG.opE_one 14 (by kernel_rfl) ?_
        refine RegG.stepE_keep rfl rfl hC6 (fun w4 hx4 hC7 K hK => ?_)
        go_simp
        refine hK _ _ hC7 (fun hC8 => ?_)
        clear hK K
        refine RegG.opE_one 15 (by kernel_rfl) ?_
        refine RegG.stepE_keep rfl rfl hC8 (fun w5 hx5 hC9 K hK => ?_)
        have O5 := own_ext ho4 (Ext.trans hx4 hx5)
        obtain ⟨⟨d0, d1⟩, ho6⟩ := Hd.out _ O5
        have f2 := O5.frozenAt (jj * 2)
        have f3 := O5.frozenAt (jj * 2 + 1)
        go_simp
        refine hK _ _ ((hC9.set (p := ⟨g, jj * 2, none⟩) (Eq.refl g) _).set (p := ⟨g, jj * 2 + 1, none⟩) (Eq.refl g) _) (fun hC10 => ?_)
        clear hK K f2 f3 d0 d1
        refine ⟨by kernel_rfl, fun w6 hx6 => ?_⟩
        have O6 := Lib.hid (own_ext ho6 hx6)
        have G6 : Hid (w.grownBy w6 (some g)) := Lib.hid (only_ext (only_set (only_set (only_ext (only_ext (only_set (only_set (only_ext (only_ext (only_ext G.out (ext_cls hx1)) hx2) (Ext.trans hxq hx3)) _ _) _ _) hx4) hx5) _ _) _ _) hx6)
        clear O1 O2 O3 O5 ho4 ho6 hxq hCq hCr hx1 hx2 hx3 hx4 hx5 hx6 hC1 hC2 hC3 hC4 hC5 hC6 hC7 hC8 hC9 hC10
        go_wp2
        go_roundw
        case rel => exact ⟨k + 1, by omega, by go_num, by have := Hjj.out; go_num, O6.out, G6.out⟩
        case measure => simp [intOf]; omega
    · have hfin : Hid (revK ps k = ps.reverse) := Lib.hid (revK_all (by omega))
      have hI : ¬ ((k : Int) < (ps.length : Int) - 1 - (k : Int)) := by omega
      rw [hfin.out] at how
      go_wp2
      exact bodyPost_end (v := .tuple #[]) (by simp [results, Try.results163, go_sem]) rfl ⟨rfl, how, hgw⟩
end Go.Proofs.Ytnclnmciaehgeaa
