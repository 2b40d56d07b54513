/-
  slices.Reverse of points of one's own; curves divided: the program's walk.
-/
import Derived.Test.YtagmnbphbakikaaGreatCurveI
import Derived.Test.YtagmnbphbakikaaGreatMg7
namespace Go.Proofs.YtagmnbphbakikaaGreat
open Go Go.RowKit Reg
attribute [local go_sem] calmAt calmUpon RegG.calmAt RegG.calmUpon
set_option maxRecDepth 100000 in
set_option maxHeartbeats 4000000 in
theorem c_Reverse {B : Nat} {A : Option Addr} {cap : Nat} {ps : List Pt} {w : World} (h : Has w B 45 2 (.slice A ps.length cap) ps.length (ps.flatMap ptC)) (hn : ps.length ≤ 1000000) :
    Calls Tryz.prog 192 #[.slice A ps.length cap] w fun e w' => e = .returned (.tuple #[]) ∧ Has w' B 45 2 (.slice A ps.length cap) ps.length (ps.reverse.flatMap ptC) ∧ w.grownBy w' (Value.slice A ps.length cap).ownBlock := by
  have H := Lib.hid h
  obtain ⟨n, hnn⟩ : ∃ n, n = ps.length := ⟨_, rfl⟩
  clear h
  go_enter Tryz.func192, Tryz.ntmps192
  go_wp2_with fail
  go_loopw [2, 3] (fun i j wr => ∃ (k : Nat), 2 * k ≤ ps.length + 1 ∧ i = .int .i64 k ∧ j = .int .i64 ((ps.length : Int) - 1 - k) ∧ Has wr B 45 2 (.slice A ps.length cap) ps.length ((revK ps k).flatMap ptC) ∧ w.grownBy wr (Value.slice A ps.length cap).ownBlock) (fun i _ _ => ps.length + 2 - 2 * (intOf i).toNat)
  case atStart => exact ⟨0, by omega, rfl, by go_num, by rw [revK_zero]; exact H.out, only_refl _ _⟩
  case round =>
    obtain ⟨k, hk, rfl, rfl, how, hgw⟩ := hrel
    by_cases hlt : 2 * k + 1 < ps.length
    · obtain ⟨g, rfl, hg0, hg⟩ := own_at how (by omega)
      obtain ⟨jj, hjj⟩ : ∃ jj, jj = ps.length - 1 - k := ⟨_, rfl⟩
      have ej : (ps.length : Int) - 1 - (k : Int) = (jj : Int) := by omega
      have hrl := revK_len ps k
      have hkl : k < (revK ps k).length := by omega
      have hjl : jj < (revK ps k).length := by omega
      have fx := flat_get ptC_len (revK ps k) [] k hkl 0 (by omega)
      have fy := flat_get ptC_len (revK ps k) [] k hkl 1 (by omega)
      have gx := flat_get ptC_len (revK ps k) [] jj hjl 0 (by omega)
      have gy := flat_get ptC_len (revK ps k) [] jj hjl 1 (by omega)
      rw [List.append_nil] at fx fy gx gy
      have Hs : Hid (((revK ps k).set k (revK ps k)[jj]).set jj (revK ps k)[k] = revK ps (k + 1)) := Lib.hid (by
        have := revK_succ hlt
        subst hjj
        exact this)
      have hjk : jj ≠ k := by omega
      have hs1 := flat_set ptC_len (revK ps k) hkl (revK ps k)[jj]
      have hs2 := flat_set ptC_len ((revK ps k).set k (revK ps k)[jj]) (show jj < ((revK ps k).set k (revK ps k)[jj]).length by rw [List.length_set]; exact hjl) (revK ps k)[k]
      have hml : jj < ((revK ps k).set k (revK ps k)[jj]).length := by rw [List.length_set]; exact hjl
      have mx := flat_get ptC_len ((revK ps k).set k (revK ps k)[jj]) [] jj hml 0 (by omega)
      have my := flat_get ptC_len ((revK ps k).set k (revK ps k)[jj]) [] jj hml 1 (by omega)
      rw [List.append_nil, List.getElem_set_ne (by omega)] at mx my
      have Hc : Hid (∀ W, Has W B 45 2 (.slice (some ⟨g, 0, none⟩) ps.length cap) ps.length ((revK ps k).flatMap ptC) →
          (W.cell? ⟨g, k * 2, none⟩ = some (.int .i64 (revK ps k)[k].1) ∧ W.cell? ⟨g, k * 2 + 1, none⟩ = some (.int .i64 (revK ps k)[k].2) ∧ W.cell? ⟨g, jj * 2, none⟩ = some (.int .i64 (revK ps k)[jj].1) ∧ W.cell? ⟨g, jj * 2 + 1, none⟩ = some (.int .i64 (revK ps k)[jj].2)) ∧
          Has ((W.setCell ⟨g, k * 2, none⟩ (.int .i64 (revK ps k)[jj].1)).setCell ⟨g, k * 2 + 1, none⟩ (.int .i64 (revK ps k)[jj].2)) B 45 2 (.slice (some ⟨g, 0, none⟩) ps.length cap) ps.length (((revK ps k).set k (revK ps k)[jj]).flatMap ptC)) := Lib.hid (fun W hW => by
        refine ⟨⟨(hW.cellAt _ (by omega)).trans fx, (hW.cellAt _ (by omega)).trans fy, (hW.cellAt _ (by omega)).trans gx, (hW.cellAt _ (by omega)).trans gy⟩, ?_⟩
        have st := ((hW.stored (k * 2) (.int .i64 (revK ps k)[jj].1)).1.stored (k * 2 + 1) (.int .i64 (revK ps k)[jj].2)).1
        rw [hs1] at st
        exact st)
      have Hd : Hid (∀ W, Has W B 45 2 (.slice (some ⟨g, 0, none⟩) ps.length cap) ps.length (((revK ps k).set k (revK ps k)[jj]).flatMap ptC) →
          (W.cell? ⟨g, jj * 2, none⟩ = some (.int .i64 (revK ps k)[jj].1) ∧ W.cell? ⟨g, jj * 2 + 1, none⟩ = some (.int .i64 (revK ps k)[jj].2)) ∧ Has ((W.setCell ⟨g, jj * 2, none⟩ (.int .i64 (revK ps k)[k].1)).setCell ⟨g, jj * 2 + 1, none⟩ (.int .i64 (revK ps k)[k].2)) B 45 2 (.slice (some ⟨g, 0, none⟩) ps.length cap) ps.length ((revK ps (k + 1)).flatMap ptC)) := Lib.hid (fun W hW => by
        have st := ((hW.stored (jj * 2) (.int .i64 (revK ps k)[k].1)).1.stored (jj * 2 + 1) (.int .i64 (revK ps k)[k].2)).1
        rw [hs2, Hs.out] at st
        exact ⟨⟨(hW.cellAt _ (by omega)).trans mx, (hW.cellAt _ (by omega)).trans my⟩, st⟩)
      have O := Lib.hid how
      have G := Lib.hid hgw
      have hkI : (k : Int) < (ps.length : Int) := by omega
      have hjI : (jj : Int) < (ps.length : Int) := by omega
      have hkjI : (k : Int) < (jj : Int) := by omega
      clear how hgw fx fy gx gy mx my hml hs1 hs2 Hs hrl
      generalize (revK ps k).set k (revK ps k)[jj] = ml at *
      generalize (revK ps k)[k] = p at *
      generalize (revK ps k)[jj] = q at *
      clear hkl hjl
      obtain ⟨px, py⟩ := p
      obtain ⟨qx, qy⟩ := q
      dsimp only at Hc Hd
      rw [ej]
      have Ej := Lib.hid ej
      clear ej
      have Hjj := Lib.hid hjj
      clear hjj
      go_wp2_with fail
      refine RegG.wp_region_open (fun i => i = g) [0,1,2,3,4,5,6,8,9,10] 6 (by kernel_rfl) (by kernel_rfl) ?_
      iterate 10 ((refine RegG.calm_yes rfl rfl (fun w' hC => (by skip; go_simp; rfl)) (fun K hK => ?_); go_simp; refine hK _ ?_; clear hK K))
      refine RegG.calm_nil ?_
      refine RegG.opE_two 7 11 (by kernel_rfl) ?_ ?_
      · skip
        refine RegG.stepE_keep rfl rfl (RegG.Cls.refl _) (fun w1 hx1 hC1 K hK => ?_)
        have O1 := own_ext O.out (ext_cls hx1)
        obtain ⟨⟨c0, c1, d0, d1⟩, _⟩ := Hc.out _ O1
        go_simp
        refine hK _ _ hC1 (fun hC2 => ?_)
        clear hK K c0 c1 d0 d1
        refine RegG.opE_one 11 (by kernel_rfl) ?_
        refine RegG.stepE_keep rfl rfl hC2 (fun w2 hx2 hC3 K hK => ?_)
        have O2 := own_ext O1 hx2
        obtain ⟨⟨c0, c1, d0, d1⟩, _⟩ := Hc.out _ O2
        go_simp
        refine hK _ _ hC3 (fun hC4 => ?_)
        clear hK K c0 c1 d0 d1
        refine RegG.opE_one 12 (by kernel_rfl) ?_
        refine RegG.stepE_keep rfl rfl hC4 (fun wq hxq hCq K hK => ?_)
        go_simp
        refine hK _ _ hCq (fun hCr => ?_)
        clear hK K
        refine RegG.opE_one 13 (by kernel_rfl) ?_
        refine RegG.stepE_keep rfl rfl hCr (fun w3 hx3 hC5 K hK => ?_)
        have O3 := own_ext O2 (Ext.trans hxq hx3)
        obtain ⟨⟨c0, c1, d0, d1⟩, ho4⟩ := Hc.out _ O3
        have f0 := O3.frozenAt (k * 2)
        have f1 := O3.frozenAt (k * 2 + 1)
        go_simp
        refine hK _ _ ((hC5.set (p := ⟨g, k * 2, none⟩) (Eq.refl g) _).set (p := ⟨g, k * 2 + 1, none⟩) (Eq.refl g) _) (fun hC6 => ?_)
        clear hK K c0 c1 d0 d1 f0 f1
        refine RegG.opE_one 14 (by kernel_rfl) ?_
        refine RegG.stepE_keep rfl rfl hC6 (fun w4 hx4 hC7 K hK => ?_)
        go_simp
        refine hK _ _ hC7 (fun hC8 => ?_)
        clear hK K
        refine RegG.opE_one 15 (by kernel_rfl) ?_
        refine RegG.stepE_keep rfl rfl hC8 (fun w5 hx5 hC9 K hK => ?_)
        have O5 := own_ext ho4 (Ext.trans hx4 hx5)
        obtain ⟨⟨d0, d1⟩, ho6⟩ := Hd.out _ O5
        have f2 := O5.frozenAt (jj * 2)
        have f3 := O5.frozenAt (jj * 2 + 1)
        go_simp
        refine hK _ _ ((hC9.set (p := ⟨g, jj * 2, none⟩) (Eq.refl g) _).set (p := ⟨g, jj * 2 + 1, none⟩) (Eq.refl g) _) (fun hC10 => ?_)
        clear hK K f2 f3 d0 d1
        refine ⟨by kernel_rfl, fun w6 hx6 => ?_⟩
        have O6 := Lib.hid (own_ext ho6 hx6)
        have G6 : Hid (w.grownBy w6 (some g)) := Lib.hid (only_ext (only_set (only_set (only_ext (only_ext (only_set (only_set (only_ext (only_ext (only_ext G.out (ext_cls hx1)) hx2) (Ext.trans hxq hx3)) _ _) _ _) hx4) hx5) _ _) _ _) hx6)
        clear O1 O2 O3 O5 ho4 ho6 hxq hCq hCr hx1 hx2 hx3 hx4 hx5 hx6 hC1 hC2 hC3 hC4 hC5 hC6 hC7 hC8 hC9 hC10
        go_wp2
        go_roundw
        case rel => exact ⟨k + 1, by omega, by go_num, by have := Hjj.out; go_num, O6.out, G6.out⟩
        case measure => simp [intOf]; omega
      · skip
        refine RegG.stepE_keep rfl rfl (RegG.Cls.refl _) (fun w1 hx1 hC1 K hK => ?_)
        have O1 := own_ext O.out (ext_cls hx1)
        obtain ⟨⟨c0, c1, d0, d1⟩, _⟩ := Hc.out _ O1
        go_simp
        refine hK _ _ hC1 (fun hC2 => ?_)
        clear hK K c0 c1 d0 d1
        refine RegG.opE_one 7 (by kernel_rfl) ?_
        refine RegG.stepE_keep rfl rfl hC2 (fun w2 hx2 hC3 K hK => ?_)
        have O2 := own_ext O1 hx2
        obtain ⟨⟨c0, c1, d0, d1⟩, _⟩ := Hc.out _ O2
        go_simp
        refine hK _ _ hC3 (fun hC4 => ?_)
        clear hK K c0 c1 d0 d1
        refine RegG.opE_one 12 (by kernel_rfl) ?_
        refine RegG.stepE_keep rfl rfl hC4 (fun wq hxq hCq K hK => ?_)
        go_simp
        refine hK _ _ hCq (fun hCr => ?_)
        clear hK K
        refine RegG.opE_one 13 (by kernel_rfl) ?_
        refine RegG.stepE_keep rfl rfl hCr (fun w3 hx3 hC5 K hK => ?_)
        have O3 := own_ext O2 (Ext.trans hxq hx3)
        obtain ⟨⟨c0, c1, d0, d1⟩, ho4⟩ := Hc.out _ O3
        have f0 := O3.frozenAt (k * 2)
        have f1 := O3.frozenAt (k * 2 + 1)
        go_simp
        refine hK _ _ ((hC5.set (p := ⟨g, k * 2, none⟩) (Eq.refl g) _).set (p := ⟨g, k * 2 + 1, none⟩) (Eq.refl g) _) (fun hC6 => ?_)
        clear hK K c0 c1 d0 d1 f0 f1
        refine RegG.opE_one 14 (by kernel_rfl) ?_
        refine RegG.stepE_keep rfl rfl hC6 (fun w4 hx4 hC7 K hK => ?_)
        go_simp
        refine hK _ _ hC7 (fun hC8 => ?_)
        clear hK K
        refine RegG.opE_one 15 (by kernel_rfl) ?_
        refine RegG.stepE_keep rfl rfl hC8 (fun w5 hx5 hC9 K hK => ?_)
        have O5 := own_ext ho4 (Ext.trans hx4 hx5)
        obtain ⟨⟨d0, d1⟩, ho6⟩ := Hd.out _ O5
        have f2 := O5.frozenAt (jj * 2)
        have f3 := O5.frozenAt (jj * 2 + 1)
        go_simp
        refine hK _ _ ((hC9.set (p := ⟨g, jj * 2, none⟩) (Eq.refl g) _).set (p := ⟨g, jj * 2 + 1, none⟩) (Eq.refl g) _) (fun hC10 => ?_)
        clear hK K f2 f3 d0 d1
        refine ⟨by kernel_rfl, fun w6 hx6 => ?_⟩
        have O6 := Lib.hid (own_ext ho6 hx6)
        have G6 : Hid (w.grownBy w6 (some g)) := Lib.hid (only_ext (only_set (only_set (only_ext (only_ext (only_set (only_set (only_ext (only_ext (only_ext G.out (ext_cls hx1)) hx2) (Ext.trans hxq hx3)) _ _) _ _) hx4) hx5) _ _) _ _) hx6)
        clear O1 O2 O3 O5 ho4 ho6 hxq hCq hCr hx1 hx2 hx3 hx4 hx5 hx6 hC1 hC2 hC3 hC4 hC5 hC6 hC7 hC8 hC9 hC10
        go_wp2
        go_roundw
        case rel => exact ⟨k + 1, by omega, by go_num, by have := Hjj.out; go_num, O6.out, G6.out⟩
        case measure => simp [intOf]; omega
    · have hfin : Hid (revK ps k = ps.reverse) := Lib.hid (revK_all (by omega))
      have hI : ¬ ((k : Int) < (ps.length : Int) - 1 - (k : Int)) := by omega
      rw [hfin.out] at how
      go_wp2
      exact bodyPost_end (v := .tuple #[]) (by simp [results, Tryz.results192, go_sem]) rfl ⟨rfl, how, hgw⟩
theorem flat_one (l : List Pt) : ∀ u ∈ l.flatMap ptC, u.oneCell' = true := by
  intro u hu
  obtain ⟨x, _, hu⟩ := List.mem_flatMap.1 hu
  exact ptC_one x u hu
theorem dis_ne {v v' : Value} (h : ∀ k, v.ownBlock = some k → v'.ownBlock = some k → False) : v.ownBlock = none ∨ v.ownBlock ≠ v'.ownBlock := by
  cases hc : v.ownBlock with
  | none => exact .inl rfl
  | some k => exact .inr fun hh => h k hc hh.symm
set_option maxRecDepth 100000 in
set_option maxHeartbeats 4000000 in
theorem c_isplit (A : Option Addr) (cap : Nat) (c : List Pt) (w : World) (h : Pts w A c) (hv : VpAll c) (h1 : 1 ≤ c.length) (hl : c.length ≤ 1000) :
    Calls Tryz.prog 181 #[.slice A c.length cap] w fun e w' => ∃ A1 cap1 A2 cap2, e = .returned (.tuple #[.slice A1 (splitL c).1.length cap1, .slice A2 (splitL c).2.length cap2]) ∧ Pts w' A1 (splitL c).1 ∧ Pts w' A2 (splitL c).2 ∧ Below w.heap.size w w' := by
  have hAlt : ∀ b off, A = some ⟨b, off, none⟩ → 0 < c.length → b < w.heap.size := fun b off hA h0 => h.lt (by omega) h0 b off hA
  have HA := Lib.hid hAlt
  have H := Lib.hid h
  have Hv := Lib.hid hv
  have Hst := Lib.hid (splR_start h1)
  clear h hv hAlt
  go_enter Tryz.func181, Tryz.ntmps181
  go_wp2_with fail
  go_loopw [4, 5, 6, 7, 8] (fun v4 v5 v6 _ _ wr => ∃ (A1 : Option Addr) (cap1 : Nat) (l : List Pt) (A2 : Option Addr) (cap2 : Nat) (m : List Pt) (A3 : Option Addr) (cap3 : Nat) (now : List Pt),
    v4 = .slice A1 l.length cap1 ∧ v5 = .slice A2 m.length cap2 ∧ v6 = .slice A3 now.length cap3 ∧ SplR c now l m ∧ VpAll now ∧ now.length ≤ c.length ∧ l.length + now.length ≤ c.length ∧ m.length + now.length ≤ c.length ∧
    Has wr w.heap.size 45 2 (.slice A1 l.length cap1) l.length (l.flatMap ptC) ∧ Has wr w.heap.size 45 2 (.slice A2 m.length cap2) m.length (m.flatMap ptC) ∧ Pts wr A3 now ∧
    (∀ k, (Value.slice A1 l.length cap1).ownBlock = some k → (Value.slice A2 m.length cap2).ownBlock = some k → False) ∧
    (∀ b off, A3 = some ⟨b, off, none⟩ → 0 < now.length → (Value.slice A1 l.length cap1).ownBlock ≠ some b ∧ (Value.slice A2 m.length cap2).ownBlock ≠ some b) ∧ Below w.heap.size w wr) (fun _ _ v6 _ _ _ => slN v6)
  case atStart => exact ⟨none, 0, [], none, 0, [], _, cap, c, rfl, rfl, rfl, Hst.out, Hv.out, Nat.le_refl _, by simp, by simp, own_nil _ _ _ _, own_nil _ _ _ _, H.out, (fun k hk => by cases hk), fun b off hA h0 => by simp [Value.ownBlock], Below.refl _ _⟩
  case round =>
    obtain ⟨A1, cap1, l, A2, cap2, m, A3, cap3, now, rfl, rfl, rfl, hsp, hvn, hn2, hn3, hn4, ho1, ho2, hp3, hd, hs3, hbw⟩ := hrel
    clear Hst
    have Hsp := Lib.hid hsp
    have Hvn := Lib.hid hvn
    have O1 := Lib.hid ho1
    have O2 := Lib.hid ho2
    have P3 := Lib.hid hp3
    have D := Lib.hid hd
    have S3 := Lib.hid hs3
    have E := Lib.hid hbw
    have hz0 : w.heap.size ≤ wr.heap.size := hbw.size
    clear hsp hvn ho1 ho2 hp3 hd hs3 hbw
    by_cases hlt : 0 < now.length
    · have Hst := Lib.hid (splR_step Hsp.out hlt hn2)
      have Hml := Lib.hid (midsL_len now)
      have hltI : decide ((0 : Int) < (now.length : Int)) = true := by simp; omega
      have Hmv := Lib.hid (midsL_vp Hvn.out)
      obtain ⟨b3, off3, hA, hb3, hc⟩ := P3.out.pts hlt
      subst hA
      obtain ⟨cx, cy⟩ := hc 0 hlt
      obtain ⟨M, hM⟩ : ∃ M, M = now.length - 1 := ⟨_, rfl⟩
      have hMl : M < now.length := by omega
      obtain ⟨dx, dy⟩ := hc M hMl
      rw [headD_at hlt, lastD_at hM hMl] at Hst
      simp only [Nat.zero_mul, Nat.add_zero] at cx cy
      have eM : ((now.length : Nat) : Int) - 1 = (M : Int) := by omega
      have Cx := Lib.hid cx
      have Cy := Lib.hid cy
      have Dx := Lib.hid dx
      have Dy := Lib.hid dy
      have S3' := Lib.hid (S3.out b3 off3 rfl hlt)
      have Hc := Lib.hid (fun W (hW : Pts W (some ⟨b3, off3, none⟩) now) => hW)
      have hold1 : Hid (∀ k, (Value.slice A1 l.length cap1).ownBlock = some k → k < wr.heap.size) := Lib.hid (fun k hk => (O1.out.lt k hk).2)
      have hold2 : Hid (∀ k, (Value.slice A2 m.length cap2).ownBlock = some k → k < wr.heap.size) := Lib.hid (fun k hk => (O2.out.lt k hk).2)
      clear hc cx cy dx dy hM
      obtain ⟨p, hp⟩ : ∃ p, p = now[0] := ⟨_, rfl⟩
      obtain ⟨q, hq⟩ : ∃ q, q = now[M] := ⟨_, rfl⟩
      rw [← hp] at Cx Cy Hst
      rw [← hq] at Dx Dy Hst
      clear hp hq
      have EM := Lib.hid eM
      clear eM
      have eMI : (M : Int) < (now.length : Int) := by omega
      have i1 : (1 : Int) ≤ (now.length : Int) := by omega
      have i0 : (0 : Int) < (now.length : Int) := by omega
      have cCx := Cx.out
      have cCy := Cy.out
      go_wp2_with (at_builtin; refine wpList_app (base := w.heap.size) ei_pt rfl (.tmp 13) (.tmp 17) rfl rfl (own_ext O1.out (ext_alloc _ _)) rfl (src_new _ _ [_, _] (m := 1) rfl (by intro u hu; simp only [List.mem_cons, List.not_mem_nil, or_false] at hu; rcases hu with rfl | rfl <;> rfl)) (by omega) (by simp; omega) ?_; intro ve w3 hown hg hat; refine stop_in ?_)
      refine stop_out ?_
      obtain ⟨A6, cap6, hve⟩ := own_form hown
      have HAT := Lib.hid hat
      have P3a := Lib.hid ((P3.out.ext ptR_stab (ext_alloc _ _)).grownO hg (fun b off hA h0 hh => by cases hA; exact S3'.out.1 hh))
      have O2a := Lib.hid ((own_ext O2.out (ext_alloc _ _)).kept hg (dis_ne (fun k h1 h2 => D.out k h2 h1)))
      have Dxa := Lib.hid (cell_grown (Cls.cell (ext_alloc _ _) Dx.out) hg (fun hh => S3'.out.1 hh))
      have Dya := Lib.hid (cell_grown (Cls.cell (ext_alloc _ _) Dy.out) hg (fun hh => S3'.out.1 hh))
      have hz3 := hg.size
      simp only [World.size_alloc] at hz3
      clear cCx cCy
      replace E := Lib.hid (Below.grown (Ext.trans E.out (ext_alloc _ _)) hg (by simp; omega) (fun k hk => by have := (O1.out.lt k hk).1; omega))
      have heq : l ++ [p] = (l ++ [p]) := rfl
      replace O1 : Hid (Has w3 w.heap.size 45 2 (.slice A6 ((l ++ [p])).length cap6) ((l ++ [p])).length (((l ++ [p])).flatMap ptC)) := Lib.hid (by
        have q := hown
        rw [hve] at q
        rw [← heq, List.flatMap_append, List.length_append]
        exact q)
      have hvf : ve = .slice A6 ((l ++ [p])).length cap6 := by rw [hve, ← heq, List.length_append]; rfl
      clear hve
      clear hown hg hat heq
      subst hvf
      have eM := EM.out
      have hA6 : Hid (∀ k, (Value.slice A6 (l ++ [p]).length cap6).ownBlock = some k → k < w3.heap.size ∧ (k = wr.heap.size + 1 ∨ (Value.slice A1 l.length cap1).ownBlock = some k ∨ wr.heap.size ≤ k)) := Lib.hid (fun k hk => ⟨(O1.out.lt k hk).2, by
        rcases HAT.out with h | h
        · exact .inr (.inl (h ▸ hk))
        · rw [h] at hk; injection hk with hk; simp only [World.size_alloc] at hk; exact .inr (.inr (by omega))⟩)
      clear HAT
      have hD6 : Hid (∀ k, (Value.slice A6 (l ++ [p]).length cap6).ownBlock = some k → (Value.slice A2 m.length cap2).ownBlock = some k → False) := Lib.hid (fun k h1 h2 => by
        have q := hold2.out k h2
        rcases (hA6.out k h1).2 with h | h | h
        · omega
        · exact D.out k h h2
        · omega)
      have hN6 : Hid ((Value.slice A6 (l ++ [p]).length cap6).ownBlock ≠ some b3) := Lib.hid (fun hh => by
        rcases (hA6.out b3 hh).2 with h | h | h
        · omega
        · exact S3'.out.1 h
        · omega)
      have O1h := Lib.hid O1.out
      have E1 := Lib.hid E.out
      clear Cx Cy
      have cDxa := Dxa.out
      have cDya := Dya.out
      go_wp2_with (at_builtin; refine wpList_app (base := w.heap.size) ei_pt rfl (.tmp 19) (.tmp 26) rfl rfl (own_ext O2a.out (ext_alloc _ _)) rfl (src_new _ _ [_, _] (m := 1) rfl (by intro u hu; simp only [List.mem_cons, List.not_mem_nil, or_false] at hu; rcases hu with rfl | rfl <;> rfl)) (by omega) (by simp; omega) ?_; intro ve w5 hown hg hat; refine stop_in ?_)
      refine stop_out ?_
      obtain ⟨A7, cap7, hve⟩ := own_form hown
      have HAT := Lib.hid hat
      have P3b := Lib.hid ((P3a.out.ext ptR_stab (ext_alloc _ _)).grownO hg (fun b off hA h0 hh => by cases hA; exact S3'.out.2 hh))
      have O1b := Lib.hid ((own_ext O1h.out (ext_alloc _ _)).kept hg (dis_ne hD6.out))
      have hz5 := hg.size
      simp only [World.size_alloc] at hz5
      clear cDxa cDya
      replace E := Lib.hid (Below.grown (Ext.trans E.out (ext_alloc _ _)) hg (by simp; omega) (fun k hk => by have := (O2a.out.lt k hk).1; omega))
      have heq : m ++ [q] = (m ++ [q]) := rfl
      replace O2a : Hid (Has w5 w.heap.size 45 2 (.slice A7 ((m ++ [q])).length cap7) ((m ++ [q])).length (((m ++ [q])).flatMap ptC)) := Lib.hid (by
        have q := hown
        rw [hve] at q
        rw [← heq, List.flatMap_append, List.length_append]
        exact q)
      have hvf : ve = .slice A7 ((m ++ [q])).length cap7 := by rw [hve, ← heq, List.length_append]; rfl
      clear hve
      clear hown hg hat heq
      subst hvf
      clear eM
      have hA7 : Hid (∀ k, (Value.slice A7 (m ++ [q]).length cap7).ownBlock = some k → k < w5.heap.size ∧ ((Value.slice A2 m.length cap2).ownBlock = some k ∨ w3.heap.size ≤ k)) := Lib.hid (fun k hk => ⟨(O2a.out.lt k hk).2, by
        rcases HAT.out with h | h
        · exact .inl (h ▸ hk)
        · rw [h] at hk; injection hk with hk; simp only [World.size_alloc] at hk; exact .inr (by omega)⟩)
      clear HAT
      have hD7 : Hid (∀ k, (Value.slice A6 (l ++ [p]).length cap6).ownBlock = some k → (Value.slice A7 (m ++ [q]).length cap7).ownBlock = some k → False) := Lib.hid (fun k h1 h2 => by
        have q1 := (hA6.out k h1).1
        rcases (hA7.out k h2).2 with h | h
        · exact hD6.out k h1 h
        · omega)
      have hL6 : Hid (∀ k, (Value.slice A6 (l ++ [p]).length cap6).ownBlock = some k → k < w5.heap.size) := Lib.hid (fun k hk => by have := (hA6.out k hk).1; omega)
      have hl5 : (l ++ [p]).length = l.length + 1 := by simp
      have hm5 : (m ++ [q]).length = m.length + 1 := by simp
      have HL := Lib.hid hl5
      have HM := Lib.hid hm5
      clear hl5 hm5
      generalize l ++ [p] = l' at *
      generalize m ++ [q] = m' at *
      clear O1h Dxa Dya Dx Dy O2 P3 P3a D S3 hA6 hD6 hN6
      obtain ⟨wo, hwo⟩ : ∃ wo : World, wo = w5 := ⟨_, rfl⟩
      subst hwo
      have hzo : w.heap.size ≤ wo.heap.size := E.out.size
      go_wp2_with fail
      go_loopw [7, 8] (fun v7 i wr => ∃ (j : Nat) (A4 : Option Addr) (cap4 : Nat) (nx : List Pt), 1 ≤ j ∧ j ≤ now.length ∧ i = .int .i64 j ∧ v7 = .slice A4 nx.length cap4 ∧ nx = (midsL now).take (j - 1) ∧ Has wr wo.heap.size 45 2 (.slice A4 nx.length cap4) nx.length (nx.flatMap ptC) ∧ Ext wo wr) (fun _ i _ => now.length - (intOf i).toNat)
      case atStart => exact ⟨1, _, 0, [], Nat.le_refl _, by omega, rfl, rfl, by simp, own_nil _ _ _ _, Below.refl _ _⟩
      case round =>
        obtain ⟨j, A4, cap4, nx, hj1, hj, rfl, rfl, hnx, ho4, hx⟩ := hrel
        have Hnx := Lib.hid hnx
        have hnl : nx.length ≤ j := by rw [hnx, List.length_take]; omega
        have O4 := Lib.hid ho4
        have X := Lib.hid hx
        have hzx : wo.heap.size ≤ wr.heap.size := hx.size
        clear hnx ho4 hx
        by_cases hjl : j < now.length
        · obtain ⟨b4, off4, hA, _, hc⟩ := (P3b.out.ext ptR_stab X.out).pts (by omega)
          obtain ⟨ax, ay⟩ := hc (j - 1) (by omega)
          obtain ⟨bx, by'⟩ := hc j hjl
          injection hA with hA
          injection hA with hA1 hA2
          subst hA1 hA2
          have Hq : Hid (nx ++ [midP now[j - 1] now[j]] = (midsL now).take (j + 1 - 1)) := Lib.hid (by
            have e : j + 1 - 1 = (j - 1) + 1 := by omega
            have g := midsL_get now (j - 1) (by omega)
            have e2 : j - 1 + 1 = j := by omega
            rw [e, List.take_succ_eq_append_getElem (by rw [Hml.out]; omega), ← Hnx.out, g]
            simp only [e2])
          have q1 := vpB_iff.1 (Hvn.out _ (List.getElem_mem (show j - 1 < now.length by omega)))
          have q2 := vpB_iff.1 (Hvn.out _ (List.getElem_mem hjl))
          clear hc
          generalize now[j - 1] = pa at *
          generalize now[j] = pb at *
          obtain ⟨a1, a2⟩ := pa
          obtain ⟨b1, b2⟩ := pb
          dsimp only at ax ay bx by' q1 q2
          have hneed : (0 : Int) ≤ (j : Int) - 1 ∧ (1 : Int) ≤ (j : Int) ∧ (j : Int) - 1 < (now.length : Int) ∧ (j : Int) < (now.length : Int) := by omega
          have K1 := Lib.hid (fun W => c_floor (a1 + b1) 2 W (by omega) (by omega) (by omega) (by omega))
          have K2 := Lib.hid (fun W => c_floor (a2 + b2) 2 W (by omega) (by omega) (by omega) (by omega))
          have g1 : IntKind.i64.wrap ((j : Int) - 1) = (j : Int) - 1 := IntWalk.i64_in _ (by omega)
          have g2 : ((j : Int) - 1).toNat = j - 1 := by omega
          have g3 : IntKind.i64.wrap (a1 + b1) = a1 + b1 := IntWalk.i64_in _ (by omega)
          have g4 : IntKind.i64.wrap (a2 + b2) = a2 + b2 := IntWalk.i64_in _ (by omega)
          have G := Lib.hid (And.intro g1 (And.intro g2 (And.intro g3 g4)))
          have hjI : decide ((j : Int) < (now.length : Int)) = true := by simp; omega
          clear g1 g2 g3 g4 q1 q2
          have Ax := Lib.hid ax
          have Ay := Lib.hid ay
          have Bx := Lib.hid bx
          have By := Lib.hid by'
          clear ax ay bx by'
          obtain ⟨hn5, hn6, hn7, hn8⟩ := hneed
          go_wp2_with fail
          obtain ⟨g1, g2, g3, g4⟩ := G.out
          have cAx := Ax.out
          have cAy := Ay.out
          have cBx := Bx.out
          have cBy := By.out
          refine wp_region_calm [0,1,2,3,4,5,6,7,8,9,10,11,12,13,14,15,16,17,18,19,20,21,22,23,24,25,26,27] [28,29,30] (by kernel_rfl) (by kernel_rfl) ?_
          (refine calm_yes rfl rfl (fun w' hC => (by have cAx := hC.cell cAx; have cAy := hC.cell cAy; have cBx := hC.cell cBx; have cBy := hC.cell cBy; go_simp; rfl)) (fun K hK => ?_); go_simp; refine hK _ ?_; clear hK K)
          (refine calm_yes rfl rfl (fun w' hC => (by have cAx := hC.cell cAx; have cAy := hC.cell cAy; have cBx := hC.cell cBx; have cBy := hC.cell cBy; go_simp; rfl)) (fun K hK => ?_); go_simp; refine hK _ ?_; clear hK K)
          (refine calm_yes rfl rfl (fun w' hC => (by have cAx := hC.cell cAx; have cAy := hC.cell cAy; have cBx := hC.cell cBx; have cBy := hC.cell cBy; go_simp; rfl)) (fun K hK => ?_); go_simp; refine hK _ ?_; clear hK K)
          (refine calm_yes rfl rfl (fun w' hC => (by have cAx := hC.cell cAx; have cAy := hC.cell cAy; have cBx := hC.cell cBx; have cBy := hC.cell cBy; go_simp; rfl)) (fun K hK => ?_); go_simp; refine hK _ ?_; clear hK K)
          (refine calm_yes rfl rfl (fun w' hC => (by have cAx := hC.cell cAx; have cAy := hC.cell cAy; have cBx := hC.cell cBx; have cBy := hC.cell cBy; go_simp; rfl)) (fun K hK => ?_); go_simp; refine hK _ ?_; clear hK K)
          (refine calm_yes rfl rfl (fun w' hC => (by have cAx := hC.cell cAx; have cAy := hC.cell cAy; have cBx := hC.cell cBx; have cBy := hC.cell cBy; go_simp; rfl)) (fun K hK => ?_); go_simp; refine hK _ ?_; clear hK K)
          (refine calm_yes rfl rfl (fun w' hC => (by have cAx := hC.cell cAx; have cAy := hC.cell cAy; have cBx := hC.cell cBx; have cBy := hC.cell cBy; go_simp; rfl)) (fun K hK => ?_); go_simp; refine hK _ ?_; clear hK K)
          (refine calm_yes rfl rfl (fun w' hC => (by have cAx := hC.cell cAx; have cAy := hC.cell cAy; have cBx := hC.cell cBx; have cBy := hC.cell cBy; go_simp; rfl)) (fun K hK => ?_); go_simp; refine hK _ ?_; clear hK K)
          (refine calm_yes rfl rfl (fun w' hC => (by have cAx := hC.cell cAx; have cAy := hC.cell cAy; have cBx := hC.cell cBx; have cBy := hC.cell cBy; go_simp; rfl)) (fun K hK => ?_); go_simp; refine hK _ ?_; clear hK K)
          (refine calm_yes rfl rfl (fun w' hC => (by have cAx := hC.cell cAx; have cAy := hC.cell cAy; have cBx := hC.cell cBx; have cBy := hC.cell cBy; go_simp; rfl)) (fun K hK => ?_); go_simp; refine hK _ ?_; clear hK K)
          (refine calm_yes rfl rfl (fun w' hC => (by have cAx := hC.cell cAx; have cAy := hC.cell cAy; have cBx := hC.cell cBx; have cBy := hC.cell cBy; go_simp; rfl)) (fun K hK => ?_); go_simp; refine hK _ ?_; clear hK K)
          (refine calm_yes rfl rfl (fun w' hC => (by have cAx := hC.cell cAx; have cAy := hC.cell cAy; have cBx := hC.cell cBx; have cBy := hC.cell cBy; go_simp; rfl)) (fun K hK => ?_); go_simp; refine hK _ ?_; clear hK K)
          (refine calm_yes rfl rfl (fun w' hC => (by have cAx := hC.cell cAx; have cAy := hC.cell cAy; have cBx := hC.cell cBx; have cBy := hC.cell cBy; go_simp; rfl)) (fun K hK => ?_); go_simp; refine hK _ ?_; clear hK K)
          (apply calm_call rfl rfl rfl Tryz.func167 (by kernel_rfl) rfl (by go_simp; rfl); exact (fun w' hC => ext_of_same (K1.out w')); intro K hK; go_simp; refine hK _ ?_; clear hK K)
          (refine calm_yes rfl rfl (fun w' hC => (by have cAx := hC.cell cAx; have cAy := hC.cell cAy; have cBx := hC.cell cBx; have cBy := hC.cell cBy; go_simp; rfl)) (fun K hK => ?_); go_simp; refine hK _ ?_; clear hK K)
          (refine calm_yes rfl rfl (fun w' hC => (by have cAx := hC.cell cAx; have cAy := hC.cell cAy; have cBx := hC.cell cBx; have cBy := hC.cell cBy; go_simp; rfl)) (fun K hK => ?_); go_simp; refine hK _ ?_; clear hK K)
          (refine calm_yes rfl rfl (fun w' hC => (by have cAx := hC.cell cAx; have cAy := hC.cell cAy; have cBx := hC.cell cBx; have cBy := hC.cell cBy; go_simp; rfl)) (fun K hK => ?_); go_simp; refine hK _ ?_; clear hK K)
          (refine calm_yes rfl rfl (fun w' hC => (by have cAx := hC.cell cAx; have cAy := hC.cell cAy; have cBx := hC.cell cBx; have cBy := hC.cell cBy; go_simp; rfl)) (fun K hK => ?_); go_simp; refine hK _ ?_; clear hK K)
          (refine calm_yes rfl rfl (fun w' hC => (by have cAx := hC.cell cAx; have cAy := hC.cell cAy; have cBx := hC.cell cBx; have cBy := hC.cell cBy; go_simp; rfl)) (fun K hK => ?_); go_simp; refine hK _ ?_; clear hK K)
          (refine calm_yes rfl rfl (fun w' hC => (by have cAx := hC.cell cAx; have cAy := hC.cell cAy; have cBx := hC.cell cBx; have cBy := hC.cell cBy; go_simp; rfl)) (fun K hK => ?_); go_simp; refine hK _ ?_; clear hK K)
          (refine calm_yes rfl rfl (fun w' hC => (by have cAx := hC.cell cAx; have cAy := hC.cell cAy; have cBx := hC.cell cBx; have cBy := hC.cell cBy; go_simp; rfl)) (fun K hK => ?_); go_simp; refine hK _ ?_; clear hK K)
          (refine calm_yes rfl rfl (fun w' hC => (by have cAx := hC.cell cAx; have cAy := hC.cell cAy; have cBx := hC.cell cBx; have cBy := hC.cell cBy; go_simp; rfl)) (fun K hK => ?_); go_simp; refine hK _ ?_; clear hK K)
          (refine calm_yes rfl rfl (fun w' hC => (by have cAx := hC.cell cAx; have cAy := hC.cell cAy; have cBx := hC.cell cBx; have cBy := hC.cell cBy; go_simp; rfl)) (fun K hK => ?_); go_simp; refine hK _ ?_; clear hK K)
          (refine calm_yes rfl rfl (fun w' hC => (by have cAx := hC.cell cAx; have cAy := hC.cell cAy; have cBx := hC.cell cBx; have cBy := hC.cell cBy; go_simp; rfl)) (fun K hK => ?_); go_simp; refine hK _ ?_; clear hK K)
          (refine calm_yes rfl rfl (fun w' hC => (by have cAx := hC.cell cAx; have cAy := hC.cell cAy; have cBx := hC.cell cBx; have cBy := hC.cell cBy; go_simp; rfl)) (fun K hK => ?_); go_simp; refine hK _ ?_; clear hK K)
          (refine calm_yes rfl rfl (fun w' hC => (by have cAx := hC.cell cAx; have cAy := hC.cell cAy; have cBx := hC.cell cBx; have cBy := hC.cell cBy; go_simp; rfl)) (fun K hK => ?_); go_simp; refine hK _ ?_; clear hK K)
          (apply calm_call rfl rfl rfl Tryz.func167 (by kernel_rfl) rfl (by go_simp; rfl); exact (fun w' hC => ext_of_same (K2.out w')); intro K hK; go_simp; refine hK _ ?_; clear hK K)
          (refine calm_yes rfl rfl (fun w' hC => (by have cAx := hC.cell cAx; have cAy := hC.cell cAy; have cBx := hC.cell cBx; have cBy := hC.cell cBy; go_simp; rfl)) (fun K hK => ?_); go_simp; refine hK _ ?_; clear hK K)
          refine calm_nil (fun wa hCa => ?_)
          refine late_keep rfl rfl hCa (fun wb hxb hCb K hK => ?_)
          go_simp
          refine hK _ _ (Below.alloc hCb hCb.size _) (fun _ => ?_)
          clear hK K
          refine late_free (by kernel_rfl) rfl rfl (fun wd hxd K hK => ?_)
          have Eb := Ext.trans (ext_cls hCa) hxb
          have Ed := Ext.trans (Ext.trans Eb (ext_alloc _ _)) hxd
          have hsz : wo.heap.size ≤ wd.heap.size := by have h1 := Ed.size; omega
          refine wp_app (base := wo.heap.size) ei_pt (.tmp 34) (.tmp 62) rfl rfl (own_ext O4.out Ed) rfl ((src_new wb _ [_, _] (m := 1) rfl (by intro u hu; simp only [List.mem_cons, List.not_mem_nil, or_false] at hu; rcases hu with rfl | rfl <;> rfl)).ext hxd) (by omega) hsz ?_
          intro ve we hown hg hat
          refine hK _ _ ?_
          clear hK K
          refine late_free (by kernel_rfl) rfl rfl (fun wf30 hx30 K hK => ?_)
          go_simp
          refine hK _ _ ?_
          clear hK K
          refine late_nil (fun w3' hxz => ?_)
          have EN := Ext.trans hx30 hxz
          obtain ⟨A5, cap5, hve⟩ := own_form hown
          clear cAx cAy cBx cBy
          replace X := Lib.hid (Ext.trans (Below.grown (Ext.trans X.out Ed) hg (by have := hsz; omega) (fun k hk => by have := (O4.out.lt k hk).1; omega)) EN)
          have heq : nx ++ [midP (a1, a2) (b1, b2)] = (nx ++ [midP (a1, a2) (b1, b2)]) := rfl
          replace O4 : Hid (Has w3' wo.heap.size 45 2 (.slice A5 ((nx ++ [midP (a1, a2) (b1, b2)])).length cap5) ((nx ++ [midP (a1, a2) (b1, b2)])).length (((nx ++ [midP (a1, a2) (b1, b2)])).flatMap ptC)) := Lib.hid (by
            have q := own_ext hown EN
            rw [hve] at q
            rw [← heq, List.flatMap_append, List.length_append]
            exact q)
          have hvf : ve = .slice A5 ((nx ++ [midP (a1, a2) (b1, b2)])).length cap5 := by rw [hve, ← heq, List.length_append]; rfl
          clear hve
          clear hown hg hat heq EN Ed Eb hsz hCa hCb hxb hxd hxz hx30
          subst hvf
          clear g1 g2 g3 g4
          go_wp2
          go_roundw
          case rel => exact ⟨j + 1, A5, cap5, _, by omega, by omega, by go_num, rfl, Hq.out, O4.out, X.out⟩
          case measure => simp [intOf]; omega
        · have hj' : j = now.length := by omega
          have hnx : nx = midsL now := by rw [Hnx.out, hj', List.take_of_length_le (by rw [Hml.out]; exact Nat.le_refl _)]
          have hjI : decide ((j : Int) < (now.length : Int)) = false := by simp; omega
          clear hj' Hnx
          subst hnx
          have hml := Hml.out
          have O1c := Lib.hid (own_ext O1b.out X.out)
          have O2c := Lib.hid (own_ext O2a.out X.out)
          have E2 := Lib.hid (Ext.trans E.out X.out)
          have e1 := HL.out
          have e2 := HM.out
          clear P3b O1b O2a E E1
          generalize midsL now = nx at *
          go_wp2
          go_roundw
          case rel => exact ⟨A6, cap6, l', A7, cap7, m', A4, cap4, nx, by rw [e1], by rw [e2], rfl, Hst.out, Hmv.out, by omega, by omega, by omega, O1c.out, O2c.out, own_in (enc := ptC) ptC_len (by decide) O4.out (fun _ => rfl), hD7.out, fun b off hA h0 => by
            have h1 := (O4.out.lt b (by rw [hA]; rfl)).1
            exact ⟨fun hh => by have := hL6.out b hh; omega, fun hh => by have := (hA7.out b hh).1; omega⟩, E2.out⟩
          case measure => simp [slN]; omega
    · have hn0 : ¬ ((0 : Int) < (now.length : Int)) := by omega
      have Hf := Lib.hid (splR_stop Hsp.out hlt)
      have KR := Lib.hid (c_Reverse O2.out (by omega))
      go_wp2_with fail
      refine KR.out.mono ?_
      rintro e w1 ⟨rfl, hr1, hg1⟩
      have O2r := Lib.hid hr1
      have O1r := Lib.hid (O1.out.kept hg1 (dis_ne D.out))
      have E1 := Lib.hid (own_below E.out O2.out hg1 hz0)
      clear hr1 hg1
      have K1 := Lib.hid (fun W (hW : Has W w.heap.size 45 2 (.slice A1 l.length cap1) l.length (l.flatMap ptC)) => c_clone_ei_pt A1 l.length cap1 (l.flatMap ptC) W (hW.src (flat_one l)) hW.slok (by omega))
      have K2 := Lib.hid (fun W (hW : Has W w.heap.size 45 2 (.slice A2 m.length cap2) m.length (m.reverse.flatMap ptC)) => c_clone_ei_pt A2 m.length cap2 (m.reverse.flatMap ptC) W (hW.src (flat_one m.reverse)) hW.slok (by omega))
      go_wp2_with fail
      refine (K1.out _ O1r.out).mono ?_
      rintro e w2 ⟨A8, rfl, _, ho8, hb⟩
      replace E1 := Lib.hid (Ext.trans E1.out hb)
      replace O1r := Lib.hid (own_ext O1r.out hb)
      replace O2r := Lib.hid (own_ext O2r.out hb)
      clear hb
      have O8 := Lib.hid (ho8)
      clear ho8
      go_wp2_with fail
      refine (K2.out _ O2r.out).mono ?_
      rintro e w3 ⟨A9, rfl, _, ho9, hb⟩
      replace E1 := Lib.hid (Ext.trans E1.out hb)
      replace O1r := Lib.hid (own_ext O1r.out hb)
      replace O2r := Lib.hid (own_ext O2r.out hb)
      replace O8 := Lib.hid (own_ext O8.out hb)
      clear hb
      have O9 := Lib.hid (ho9)
      clear ho9
      go_wp2
      go_ret2
      rw [Hf.out]
      have e : m.length = m.reverse.length := by simp
      have O9' := O9.out
      dsimp only
      rw [e] at O9' ⊢
      exact ⟨A8, l.length, A9, m.reverse.length, rfl, own_in (enc := ptC) ptC_len (by decide) O8.out (fun _ => rfl), own_in (enc := ptC) ptC_len (by decide) O9' (fun _ => rfl), E1.out⟩
end Go.Proofs.YtagmnbphbakikaaGreat
