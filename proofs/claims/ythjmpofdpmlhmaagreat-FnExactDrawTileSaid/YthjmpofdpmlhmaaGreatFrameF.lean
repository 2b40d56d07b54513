/-
  DrawTile and DrawTiles: the walks.
-/
import Derived.Test.YthjmpofdpmlhmaaGreatFrameJ
import Derived.Test.YthjmpofdpmlhmaaGreatMarkI
namespace Go.Proofs.YthjmpofdpmlhmaaGreat
open Go Go.RowKit Reg
attribute [local go_sem] calmAt calmUpon
theorem slok_some {ad : Addr} {n : Nat} (h : n ≤ 1048576) : SlOk (some ad) n n := ⟨fun h => (by cases h), Nat.le_refl _, by unfold maxLen; omega⟩
set_option maxRecDepth 100000 in
set_option maxHeartbeats 8000000 in
theorem c_sDrawTile (W H : Int) (A : Option Addr) (cap : Nat) (cs : List Bx4) (W2 H2 : Int) (As : Option Addr) (scap : Nat) (fs : List FlD) (t : Int) (w : World) (h : Cos w A cs) (hf : Fls w As fs) (hl : cs.length ≤ 1048576) (hsm : flsSm fs) :
    Calls Tryz.prog 7 #[frV W H A cs.length cap, .agg #[.int .i64 W2, .int .i64 H2, .slice As fs.length scap], .int .i64 t] w fun e w' => RetFr w (dtR W H cs W2 H2 fs t) e w' := by
  have P := Lib.hid h
  have Q := Lib.hid hf
  have Hsm := Lib.hid hsm
  have E := Lib.hid (Below.refl w.heap.size w)
  obtain ⟨d1, hd1⟩ : ∃ d, frB W H cs = d := ⟨_, rfl⟩
  obtain ⟨d2, hd2⟩ : ∃ d, scB W2 H2 fs = d := ⟨_, rfl⟩
  obtain ⟨d3, hd3⟩ : ∃ d, inB t 0 (tilesL W2 H2 - 1) = d := ⟨_, rfl⟩
  obtain ⟨M, hM⟩ : ∃ M, dtR W H cs W2 H2 fs t = M := ⟨_, rfl⟩
  have HM : Hid (M = if d1 && (d2 && (decide (W = W2) && (decide (H = H2) && d3))) then ((W, H, tpix W H fs t cs), true) else noFr) := Lib.hid (by rw [← hM]; unfold dtR; rw [hd1, hd2, hd3])
  rw [hM]
  have H1 := Lib.hid hd1
  have Hs2 := Lib.hid hd2
  have H3 := Lib.hid hd3
  clear h hf hsm hd1 hd2 hd3 hM
  go_enter Tryz.func7, Tryz.ntmps7
  go_wp2_with fail
  first | refine gen_calls ?_ | refine gen_code ?_ | refine gen_list ?_
  intro w0 hW
  obtain ⟨hb, hR0, hR1, hR6⟩ := new3 hW
  clear hW
  replace E := Lib.hid (Ext.trans E.out hb)
  replace P := Lib.hid (P.out.ext coR_stab hb)
  replace Q := Lib.hid (Q.out.ext flR_stab hb)
  clear hb
  have R0 := Lib.hid hR0
  have lR0 := R0.out.lt
  clear hR0
  have R1 := Lib.hid hR1
  have lR1 := R1.out.lt
  clear hR1
  have R6 := Lib.hid hR6
  have lR6 := R6.out.lt
  clear hR6
  have k0 := R0.out.cell_of (i := 0) rfl
  have k1 := R0.out.cell_of (i := 1) rfl
  have k2 := R0.out.cell_of (i := 2) rfl
  have s0 := R1.out.cell_of (i := 0) rfl
  have s1 := R1.out.cell_of (i := 1) rfl
  have s2 := R1.out.cell_of (i := 2) rfl
  have r0 := R6.out.cell_of (i := 0) rfl
  have zr0 := R6.out.frozen 0
  have r1 := R6.out.cell_of (i := 1) rfl
  have zr1 := R6.out.frozen 1
  have r2 := R6.out.cell_of (i := 2) rfl
  have zr2 := R6.out.frozen 2
  go_wp2_with fail
  clear k0 k1 k2 s0 s1 s2 r0 zr0 r1 zr1 r2 zr2
  refine (c_sframeValid W H A cap cs _ P.out hl).mono ?_
  rw [H1.out]
  rintro e w1 ⟨rfl, hb⟩
  replace E := Lib.hid (Ext.trans E.out hb)
  replace P := Lib.hid (P.out.ext coR_stab hb)
  replace Q := Lib.hid (Q.out.ext flR_stab hb)
  replace R0 := Lib.hid (R0.out.ext hb)
  have lR0 := R0.out.lt
  replace R1 := Lib.hid (R1.out.ext hb)
  have lR1 := R1.out.lt
  replace R6 := Lib.hid (R6.out.ext hb)
  have lR6 := R6.out.lt
  clear hb
  have k0 := R0.out.cell_of (i := 0) rfl
  have k1 := R0.out.cell_of (i := 1) rfl
  have k2 := R0.out.cell_of (i := 2) rfl
  have s0 := R1.out.cell_of (i := 0) rfl
  have s1 := R1.out.cell_of (i := 1) rfl
  have s2 := R1.out.cell_of (i := 2) rfl
  have r0 := R6.out.cell_of (i := 0) rfl
  have zr0 := R6.out.frozen 0
  have r1 := R6.out.cell_of (i := 1) rfl
  have zr1 := R6.out.frozen 1
  have r2 := R6.out.cell_of (i := 2) rfl
  have zr2 := R6.out.frozen 2
  cases d1
  · have hz : M = noFr := by rw [HM.out]; simp
    subst hz
    go_wp2
    exact bodyPost_ret (v := .tuple #[frV 0 0 none 0 0, .bool false]) (by simp [results, Tryz.results7, go_sem, r0, r1, r2]) rfl (RetFr.no (set3_below E.out (by omega) _ _ _))
  · go_wp2_with fail
    clear k0 k1 k2 s0 s1 s2 r0 zr0 r1 zr1 r2 zr2
    refine (c_sValidScene W2 H2 As scap fs _ Q.out Hsm.out).mono ?_
    rw [Hs2.out]
    rintro e w2 ⟨rfl, hb⟩
    replace E := Lib.hid (Ext.trans E.out hb)
    replace P := Lib.hid (P.out.ext coR_stab hb)
    replace Q := Lib.hid (Q.out.ext flR_stab hb)
    replace R0 := Lib.hid (R0.out.ext hb)
    have lR0 := R0.out.lt
    replace R1 := Lib.hid (R1.out.ext hb)
    have lR1 := R1.out.lt
    replace R6 := Lib.hid (R6.out.ext hb)
    have lR6 := R6.out.lt
    clear hb
    have k0 := R0.out.cell_of (i := 0) rfl
    have k1 := R0.out.cell_of (i := 1) rfl
    have k2 := R0.out.cell_of (i := 2) rfl
    have s0 := R1.out.cell_of (i := 0) rfl
    have s1 := R1.out.cell_of (i := 1) rfl
    have s2 := R1.out.cell_of (i := 2) rfl
    have r0 := R6.out.cell_of (i := 0) rfl
    have zr0 := R6.out.frozen 0
    have r1 := R6.out.cell_of (i := 1) rfl
    have zr1 := R6.out.frozen 1
    have r2 := R6.out.cell_of (i := 2) rfl
    have zr2 := R6.out.frozen 2
    cases d2
    · have hz : M = noFr := by rw [HM.out]; simp
      subst hz
      go_wp2
      exact bodyPost_ret (v := .tuple #[frV 0 0 none 0 0, .bool false]) (by simp [results, Tryz.results7, go_sem, r0, r1, r2]) rfl (RetFr.no (set3_below E.out (by omega) _ _ _))
    · obtain ⟨hW, hH⟩ := scB_sz Hs2.out
      by_cases hw : W = W2
      · subst hw
        by_cases hh : H = H2
        · subst hh
          have htb : 1 ≤ tilesL W H ∧ tilesL W H ≤ 9 := tl_9 hW hH
          have g1 : IntKind.i64.wrap (tilesL W H - 1) = tilesL W H - 1 := IntWalk.i64_in _ (by omega)
          go_wp2_with fail
          refine (c_tiles W H _ hW hH).mono ?_
          rintro e w' ⟨rfl, rfl⟩
          go_wp2_with fail
          refine (c_inRange t 0 (tilesL W H - 1) _).mono ?_
          rw [H3.out]
          rintro e w' ⟨rfl, rfl⟩
          cases d3
          · have hz : M = noFr := by rw [HM.out]; simp
            subst hz
            go_wp2
            exact bodyPost_ret (v := .tuple #[frV 0 0 none 0 0, .bool false]) (by simp [results, Tryz.results7, go_sem, r0, r1, r2]) rfl (RetFr.no (set3_below E.out (by omega) _ _ _))
          · have Hz : Hid (M = ((W, H, tpix W H fs t cs), true)) := Lib.hid (by rw [HM.out]; simp)
            obtain ⟨S, hS⟩ : ∃ S, tpix W H fs t cs = S := ⟨_, rfl⟩
            have hSl : S.length = cs.length := by rw [← hS, tpix_len]
            have KT := Lib.hid (fun Wd hW1 hW2 => c_tilePixels W H A cap cs As scap fs t Wd hW1 hW2 (frB_len H1.out) (scB_all Hs2.out) (scB_le Hs2.out) hW hH (by rw [tl_in hW hH]; exact H3.out))
            rw [hS] at KT Hz
            clear hS
            have HW2 := Lib.hid (E.out.size : w.heap.size ≤ w2.heap.size)
            go_wp2_with fail
            clear k0 k1 k2 s0 s1 s2 r0 zr0 r1 zr1 r2 zr2
            refine (KT.out _ Q.out P.out).mono ?_
            rintro e w3 ⟨A', cap', rfl, ho, hb⟩
            replace E := Lib.hid (Ext.trans E.out hb)
            replace P := Lib.hid (P.out.ext coR_stab hb)
            replace Q := Lib.hid (Q.out.ext flR_stab hb)
            replace R0 := Lib.hid (R0.out.ext hb)
            have lR0 := R0.out.lt
            replace R1 := Lib.hid (R1.out.ext hb)
            have lR1 := R1.out.lt
            replace R6 := Lib.hid (R6.out.ext hb)
            have lR6 := R6.out.lt
            clear hb
            have O := Lib.hid (ho)
            clear ho
            have k0 := R0.out.cell_of (i := 0) rfl
            have k1 := R0.out.cell_of (i := 1) rfl
            have k2 := R0.out.cell_of (i := 2) rfl
            have s0 := R1.out.cell_of (i := 0) rfl
            have s1 := R1.out.cell_of (i := 1) rfl
            have s2 := R1.out.cell_of (i := 2) rfl
            have r0 := R6.out.cell_of (i := 0) rfl
            have zr0 := R6.out.frozen 0
            have r1 := R6.out.cell_of (i := 1) rfl
            have zr1 := R6.out.frozen 1
            have r2 := R6.out.cell_of (i := 2) rfl
            have zr2 := R6.out.frozen 2
            have hz := Hz.out
            subst hz
            clear Hz HM
            go_wp2
            clear k0 k1 k2 s0 s1 s2 r0 zr0 r1 zr1 r2 zr2
            refine gen_post (fun Wd hW3 => ?_)
            have hg2 : w3.grownBy Wd (some (w.heap.size + 1 + 1)) := by rw [hW3]; exact sets3 w3 _ 0 _ _ _
            have D := R6.out
            have D2 : Row Wd (w.heap.size + 1 + 1) 32 [.int .i64 W, .int .i64 H, .slice A' cs.length cap'] := by
              rw [hW3]; exact ((D.set_ 0 _).set_ 1 _).set_ 2 _
            have y0 := D2.cell_of (i := 0) rfl
            have y1 := D2.cell_of (i := 1) rfl
            have y2 := D2.cell_of (i := 2) rfl
            have O9 := O.out.keptB D (by decide) hg2
            have E9 := below_set E.out hg2 (by omega) E.out.size
            have hw2 : w.heap.size ≤ w2.heap.size := HW2.out
            refine bodyPost_ret (v := .tuple #[frV W H A' cs.length cap', .bool true]) (by simp [results, Tryz.results7, go_sem, y0, y1, y2]) rfl ⟨A', cap', ?_, ?_, E9⟩
            · dsimp only; rw [hSl]
            · dsimp only; rw [hSl]; exact O9.rebase hw2
        · have hne : (H != H2) = true := by simp [hh]
          have hne2 : decide (H = H2) = false := by simp [hh]
          have hne3 : ¬ H = H2 := hh
          have hz : M = noFr := by rw [HM.out]; simp [hh]
          subst hz
          go_wp2
          exact bodyPost_ret (v := .tuple #[frV 0 0 none 0 0, .bool false]) (by simp [results, Tryz.results7, go_sem, r0, r1, r2]) rfl (RetFr.no (set3_below E.out (by omega) _ _ _))
      · have hne : (W != W2) = true := by simp [hw]
        have hne3 : ¬ W = W2 := hw
        have hz : M = noFr := by rw [HM.out]; simp [hw]
        subst hz
        go_wp2
        exact bodyPost_ret (v := .tuple #[frV 0 0 none 0 0, .bool false]) (by simp [results, Tryz.results7, go_sem, r0, r1, r2]) rfl (RetFr.no (set3_below E.out (by omega) _ _ _))
set_option maxRecDepth 100000 in
set_option maxHeartbeats 8000000 in
theorem c_iDrawTile (W H : Int) (A : Option Addr) (cap : Nat) (cs : List Bx4) (W2 H2 : Int) (As : Option Addr) (scap : Nat) (fs : List FlD) (t : Int) (w : World) (h : Cos w A cs) (hf : Fls w As fs) (hl : cs.length ≤ 1048576) (hsm : flsSm fs) (hso : SlOk A cs.length cap) :
    Calls Tryz.prog 10 #[frV W H A cs.length cap, .agg #[.int .i64 W2, .int .i64 H2, .slice As fs.length scap], .int .i64 t] w fun e w' => RetFr w (dtR W H cs W2 H2 fs t) e w' := by
  have P := Lib.hid h
  have Q := Lib.hid hf
  have Hsm := Lib.hid hsm
  have E := Lib.hid (Below.refl w.heap.size w)
  obtain ⟨d1, hd1⟩ : ∃ d, frB W H cs = d := ⟨_, rfl⟩
  obtain ⟨d2, hd2⟩ : ∃ d, scB W2 H2 fs = d := ⟨_, rfl⟩
  obtain ⟨d3, hd3⟩ : ∃ d, inB t 0 (tilesL W2 H2 - 1) = d := ⟨_, rfl⟩
  obtain ⟨M, hM⟩ : ∃ M, dtR W H cs W2 H2 fs t = M := ⟨_, rfl⟩
  have HM : Hid (M = if d1 && (d2 && (decide (W = W2) && (decide (H = H2) && d3))) then ((W, H, tpix W H fs t cs), true) else noFr) := Lib.hid (by rw [← hM]; unfold dtR; rw [hd1, hd2, hd3])
  rw [hM]
  have H1 := Lib.hid hd1
  have Hs2 := Lib.hid hd2
  have H3 := Lib.hid hd3
  have Hso := Lib.hid hso
  clear hso
  clear h hf hsm hd1 hd2 hd3 hM
  go_enter Tryz.func10, Tryz.ntmps10
  go_wp2_with fail
  first | refine gen_calls ?_ | refine gen_code ?_ | refine gen_list ?_
  intro w0 hW
  obtain ⟨hb, hR0, hR1, hR6⟩ := new3 hW
  clear hW
  replace E := Lib.hid (Ext.trans E.out hb)
  replace P := Lib.hid (P.out.ext coR_stab hb)
  replace Q := Lib.hid (Q.out.ext flR_stab hb)
  clear hb
  have R0 := Lib.hid hR0
  have lR0 := R0.out.lt
  clear hR0
  have R1 := Lib.hid hR1
  have lR1 := R1.out.lt
  clear hR1
  have R6 := Lib.hid hR6
  have lR6 := R6.out.lt
  clear hR6
  have k0 := R0.out.cell_of (i := 0) rfl
  have k1 := R0.out.cell_of (i := 1) rfl
  have k2 := R0.out.cell_of (i := 2) rfl
  have s0 := R1.out.cell_of (i := 0) rfl
  have s1 := R1.out.cell_of (i := 1) rfl
  have s2 := R1.out.cell_of (i := 2) rfl
  have r0 := R6.out.cell_of (i := 0) rfl
  have zr0 := R6.out.frozen 0
  have r1 := R6.out.cell_of (i := 1) rfl
  have zr1 := R6.out.frozen 1
  have r2 := R6.out.cell_of (i := 2) rfl
  have zr2 := R6.out.frozen 2
  go_wp2_with fail
  clear k0 k1 k2 s0 s1 s2 r0 zr0 r1 zr1 r2 zr2
  refine (c_iframeValid W H A cap cs _ P.out hl).mono ?_
  rw [H1.out]
  rintro e w1 ⟨rfl, hb⟩
  replace E := Lib.hid (Ext.trans E.out hb)
  replace P := Lib.hid (P.out.ext coR_stab hb)
  replace Q := Lib.hid (Q.out.ext flR_stab hb)
  replace R0 := Lib.hid (R0.out.ext hb)
  have lR0 := R0.out.lt
  replace R1 := Lib.hid (R1.out.ext hb)
  have lR1 := R1.out.lt
  replace R6 := Lib.hid (R6.out.ext hb)
  have lR6 := R6.out.lt
  clear hb
  have k0 := R0.out.cell_of (i := 0) rfl
  have k1 := R0.out.cell_of (i := 1) rfl
  have k2 := R0.out.cell_of (i := 2) rfl
  have s0 := R1.out.cell_of (i := 0) rfl
  have s1 := R1.out.cell_of (i := 1) rfl
  have s2 := R1.out.cell_of (i := 2) rfl
  have r0 := R6.out.cell_of (i := 0) rfl
  have zr0 := R6.out.frozen 0
  have r1 := R6.out.cell_of (i := 1) rfl
  have zr1 := R6.out.frozen 1
  have r2 := R6.out.cell_of (i := 2) rfl
  have zr2 := R6.out.frozen 2
  cases d1
  · have hz : M = noFr := by rw [HM.out]; simp
    subst hz
    go_wp2
    exact bodyPost_ret (v := .tuple #[frV 0 0 none 0 0, .bool false]) (by simp [results, Tryz.results10, go_sem, r0, r1, r2]) rfl (RetFr.no (set3_below E.out (by omega) _ _ _))
  · go_wp2_with fail
    clear k0 k1 k2 s0 s1 s2 r0 zr0 r1 zr1 r2 zr2
    refine (c_iValidScene W2 H2 As scap fs _ Q.out Hsm.out).mono ?_
    rw [Hs2.out]
    rintro e w2 ⟨rfl, hb⟩
    replace E := Lib.hid (Ext.trans E.out hb)
    replace P := Lib.hid (P.out.ext coR_stab hb)
    replace Q := Lib.hid (Q.out.ext flR_stab hb)
    replace R0 := Lib.hid (R0.out.ext hb)
    have lR0 := R0.out.lt
    replace R1 := Lib.hid (R1.out.ext hb)
    have lR1 := R1.out.lt
    replace R6 := Lib.hid (R6.out.ext hb)
    have lR6 := R6.out.lt
    clear hb
    have k0 := R0.out.cell_of (i := 0) rfl
    have k1 := R0.out.cell_of (i := 1) rfl
    have k2 := R0.out.cell_of (i := 2) rfl
    have s0 := R1.out.cell_of (i := 0) rfl
    have s1 := R1.out.cell_of (i := 1) rfl
    have s2 := R1.out.cell_of (i := 2) rfl
    have r0 := R6.out.cell_of (i := 0) rfl
    have zr0 := R6.out.frozen 0
    have r1 := R6.out.cell_of (i := 1) rfl
    have zr1 := R6.out.frozen 1
    have r2 := R6.out.cell_of (i := 2) rfl
    have zr2 := R6.out.frozen 2
    cases d2
    · have hz : M = noFr := by rw [HM.out]; simp
      subst hz
      go_wp2
      exact bodyPost_ret (v := .tuple #[frV 0 0 none 0 0, .bool false]) (by simp [results, Tryz.results10, go_sem, r0, r1, r2]) rfl (RetFr.no (set3_below E.out (by omega) _ _ _))
    · obtain ⟨hW, hH⟩ := scB_sz Hs2.out
      by_cases hw : W = W2
      · subst hw
        by_cases hh : H = H2
        · subst hh
          have hpos : (cs.length : Int) = W * H := frB_len H1.out
          have hL := Lib.hid hpos
          clear hpos
          go_wp2_with fail
          refine wp_region_invJ [0,1,2,3,4,5] [(6, some 38), (7, some 39), (8, some 8), (9, none)] (by kernel_rfl) (by kernel_rfl)
            (FrJ 6 7 8 9 w2.heap.size W H cs.length (cs.flatMap bxC)) (fun _ _ _ _ h hx => h.ext hx) ?_ ?_
          · intro vals w'
            exact FrJ.start (by decide) (by decide) (by decide) (by decide)
          iterate 6 ((refine calm_yes rfl rfl (fun w' hC => (by have k0 := hC.cell k0; have k1 := hC.cell k1; have k2 := hC.cell k2; go_simp; rfl)) (fun K hK => ?_); go_simp; refine hK _ ?_; clear hK K))
          refine calm_nil ?_
          clear k0 k1 k2 s0 s1 s2 r0 zr0 r1 zr1 r2 zr2
          refine ⟨List.forall_mem_cons.2 ⟨?_, List.forall_mem_cons.2 ⟨?_, List.forall_mem_cons.2 ⟨?_, List.forall_mem_cons.2 ⟨?_, by simp⟩⟩⟩⟩, ?_⟩
          · refine step_op rfl (fun vals => rfl) (fun listed vals w' hC hl' hn hJ K hK => ?_)
            simp only [canon, List.foldl_cons, List.foldl_nil]
            go_simp
            refine (c_clone_ei_co A cs.length cap (cs.flatMap bxC) w' ((P.out.ext coR_stab (Below.trans (Below.refl _ w2).drew hC)).src bxC_len (fun x us h => h) bxC_one (by decide)) Hso.out (by omega)).mono ?_
            rintro e w'' ⟨A', rfl, _, ho, hb⟩
            exact hK _ (.slice A' cs.length cs.length) _ rfl (Cls.ext hC hb) (hJ.called hb (by decide) hl' A' _ (ho.rebase hC.size))
          · refine step_op rfl (fun vals => rfl) (fun listed vals w' hC hl' hn hJ K hK => ?_)
            have h6 := hn 6 (by kernel_rfl)
            obtain ⟨A6, cap6, k6, _⟩ := hJ.call h6
            simp only [canon, List.foldl_cons, List.foldl_nil]
            rw [k6]
            go_simp
            exact hK _ (.agg #[.int .i64 W, .int .i64 H, .slice A6 cs.length cap6]) _ (by simp only [canon, List.foldl_cons, List.foldl_nil, k6]; rfl) hC (hJ.built (by decide) h6 _ (by rw [k6]))
          · refine step_op rfl (fun vals => rfl) (fun listed vals w' hC hl' hn hJ K hK => ?_)
            simp only [canon, List.foldl_cons, List.foldl_nil]
            go_simp
            exact hK _ (.pointer (some ⟨w'.heap.size, 0, none⟩)) _ rfl (Below.alloc hC hC.size _) (hJ.allocd (by decide) hl' hC.size)
          · refine step_op rfl (fun vals => rfl) (fun listed vals w' hC hl' hn hJ K hK => ?_)
            have h6 := hn 6 (by kernel_rfl)
            have h7 := hn 7 (by kernel_rfl)
            have h8 := hn 8 (by kernel_rfl)
            obtain ⟨g, cs3, k1, k2, k3, k5, _⟩ := hJ.mem h8
            obtain ⟨_, k4⟩ := hJ.pic h7
            match cs3, k5 with
            | [u0, u1, u2], _ =>
            have e0 := k3.cell_of (i := 0) rfl
            have z0 := k3.frozen 0
            have r1 := k3.set_ 0 (.int .i64 W)
            have e1 := r1.cell_of (i := 1) rfl
            have z1 := r1.frozen 1
            have r2 := r1.set_ 1 (.int .i64 H)
            have e2 := r2.cell_of (i := 2) rfl
            have z2 := r2.frozen 2
            have b3 := set3_below hC (show w2.drew.heap.size ≤ g from k2) (.int .i64 W) (.int .i64 H) (vals 6)
            have hst := hJ.stored (by decide) h6 h8 k1 h7 (.bool false) k3 rfl
            obtain ⟨A6, cap6, k6, _⟩ := hJ.call h6
            simp only [canon, List.foldl_cons, List.foldl_nil]
            rw [k1, k4, k6]
            rw [k6] at hst b3
            go_simp
            exact hK _ (.bool false) _ (by simp only [canon, List.foldl_cons, List.foldl_nil, k1, k4, k6]; rfl) b3 hst
          · intro listed vals w3 hx hall hJ K hK
            have h6 := hall 6 (by decide)
            have h7 := hall 7 (by decide)
            have h8 := hall 8 (by decide)
            have h9 := hall 9 (by decide)
            obtain ⟨A6, cap6, k6, ho⟩ := hJ.call h6
            obtain ⟨g, cs3, k1, k2, k3, _, k7⟩ := hJ.mem h8
            obtain ⟨_, k4⟩ := hJ.pic h7
            obtain rfl := k7 h9
            rw [k6] at k3
            simp only [canon, List.foldl_cons, List.foldl_nil]
            rw [k1, k4, k6]
            go_simp
            refine hK _ ?_
            clear hK K hJ hall k1 k4 k6 h6 h7 h8 h9 k7
            have hz2 : w.heap.size ≤ w2.heap.size := E.out.size
            have O := Lib.hid ho
            have RB := Lib.hid k3
            have QB := Lib.hid Q.out
            have X := Lib.hid hx
            replace P := Lib.hid (P.out.ext coR_stab hx)
            replace E := Lib.hid (Ext.trans E.out hx)
            replace R0 := Lib.hid (R0.out.ext hx)
            replace R1 := Lib.hid (R1.out.ext hx)
            replace R6 := Lib.hid (R6.out.ext hx)
            replace Q := Lib.hid (Q.out.ext flR_stab hx)
            clear ho k3 hx
            have b0 := RB.out.cell_of (i := 0) rfl
            have b1 := RB.out.cell_of (i := 1) rfl
            have b2 := RB.out.cell_of (i := 2) rfl
            have s0 := R1.out.cell_of (i := 0) rfl
            have s1 := R1.out.cell_of (i := 1) rfl
            have s2 := R1.out.cell_of (i := 2) rfl
            go_wp2_with fail
            clear b0 b1 b2 s0 s1 s2
            refine (c_fdraw W H A6 cap6 cs As scap fs t w2.heap.size w2 _ QB.out X.out (Nat.le_refl _) O.out hL.out (scB_all Hs2.out) (scB_le Hs2.out) hW hH).mono ?_
            rw [tl_in hW hH, H3.out]
            rintro e w4 ⟨rfl, ho4, hg4⟩
            replace R6 := Lib.hid (R6.out.grownNe O.out (by decide) hg4)
            replace RB := Lib.hid (RB.out.grownNe O.out (by decide) hg4)
            replace E := Lib.hid (own_below E.out (O.out.rebase hz2) hg4 E.out.size)
            replace O := Lib.hid ho4
            clear ho4 hg4 X QB P Q R0 R1
            have b0 := RB.out.cell_of (i := 0) rfl
            have b1 := RB.out.cell_of (i := 1) rfl
            have b2 := RB.out.cell_of (i := 2) rfl
            have r0 := R6.out.cell_of (i := 0) rfl
            have zr0 := R6.out.frozen 0
            have r1 := R6.out.cell_of (i := 1) rfl
            have zr1 := R6.out.frozen 1
            have r2 := R6.out.cell_of (i := 2) rfl
            have zr2 := R6.out.frozen 2
            cases d3
            · have hz : M = noFr := by rw [HM.out]; simp
              subst hz
              go_wp2
              exact bodyPost_ret (v := .tuple #[frV 0 0 none 0 0, .bool false]) (by simp [results, Tryz.results10, go_sem, r0, r1, r2]) rfl (RetFr.no (set3_below E.out (by omega) _ _ _))
            · have Hz : Hid (M = ((W, H, tpix W H fs t cs), true)) := Lib.hid (by rw [HM.out]; simp)
              obtain ⟨S, hS⟩ : ∃ S, tpix W H fs t cs = S := ⟨_, rfl⟩
              have hSl : S.length = cs.length := by rw [← hS, tpix_len]
              rw [hS] at Hz O
              clear hS
              have hz := Hz.out
              subst hz
              clear Hz HM
              go_wp2
              clear b0 b1 b2 r0 zr0 r1 zr1 r2 zr2
              refine gen_post (fun Wd hW3 => ?_)
              have hg2 : w4.grownBy Wd (some (w.heap.size + 1 + 1)) := by rw [hW3]; exact sets3 w4 _ 0 _ _ _
              have D := R6.out
              have D2 : Row Wd (w.heap.size + 1 + 1) 32 [.int .i64 W, .int .i64 H, .slice A6 cs.length cap6] := by
                rw [hW3]; exact ((D.set_ 0 _).set_ 1 _).set_ 2 _
              have y0 := D2.cell_of (i := 0) rfl
              have y1 := D2.cell_of (i := 1) rfl
              have y2 := D2.cell_of (i := 2) rfl
              have O9 := O.out.keptB D (by decide) hg2
              have E9 := below_set E.out hg2 (by omega) E.out.size
              refine bodyPost_ret (v := .tuple #[frV W H A6 cs.length cap6, .bool true]) (by simp [results, Tryz.results10, go_sem, y0, y1, y2]) rfl ⟨A6, cap6, ?_, ?_, E9⟩
              · dsimp only; rw [hSl]
              · dsimp only; rw [hSl]; exact O9.rebase hz2
        · have hne : (H != H2) = true := by simp [hh]
          have hne2 : decide (H = H2) = false := by simp [hh]
          have hne3 : ¬ H = H2 := hh
          have hz : M = noFr := by rw [HM.out]; simp [hh]
          subst hz
          go_wp2
          exact bodyPost_ret (v := .tuple #[frV 0 0 none 0 0, .bool false]) (by simp [results, Tryz.results10, go_sem, r0, r1, r2]) rfl (RetFr.no (set3_below E.out (by omega) _ _ _))
      · have hne : (W != W2) = true := by simp [hw]
        have hne3 : ¬ W = W2 := hw
        have hz : M = noFr := by rw [HM.out]; simp [hw]
        subst hz
        go_wp2
        exact bodyPost_ret (v := .tuple #[frV 0 0 none 0 0, .bool false]) (by simp [results, Tryz.results10, go_sem, r0, r1, r2]) rfl (RetFr.no (set3_below E.out (by omega) _ _ _))
end Go.Proofs.YthjmpofdpmlhmaaGreat
