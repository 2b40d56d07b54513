/-
  DrawTiles: the walks.
-/
import Derived.Test.YthjmpofdpmlhmaaGreatFrameF
namespace Go.Proofs.YthjmpofdpmlhmaaGreat
open Go Go.RowKit Reg
attribute [local go_sem] calmAt calmUpon
theorem tpixs_zero (W H : Int) (fs : List FlD) (cs : List Bx4) (ts : List Int) : tpixs W H fs (ts.take 0) cs = cs := by simp [tpixs]
theorem tpixs_all (W H : Int) (fs : List FlD) (cs : List Bx4) {ts : List Int} {k : Nat} (h : k = ts.length) : tpixs W H fs (ts.take k) cs = tpixs W H fs ts cs := by subst h; rw [List.take_length]
set_option maxRecDepth 100000 in
set_option maxHeartbeats 8000000 in
theorem c_sDrawTiles (W H : Int) (As : Option Addr) (scap : Nat) (fs : List FlD) (At : Option Addr) (tcap : Nat) (ts : List Int) (w : World) (hf : Fls w As fs) (hi : Ints w At ts) (hsm : flsSm fs) (htl : ts.length ≤ 1048576) :
    Calls Tryz.prog 16 #[.agg #[.int .i64 W, .int .i64 H, .slice As fs.length scap], .slice At ts.length tcap] w fun e w' => RetFr w (dtsR W H fs ts) e w' := by
  have Q := Lib.hid hf
  have QW := Lib.hid hf
  have I := Lib.hid hi
  have IW := Lib.hid hi
  have Hsm := Lib.hid hsm
  have E := Lib.hid (Below.refl w.heap.size w)
  obtain ⟨d1, hd1⟩ : ∃ d, scB W H fs = d := ⟨_, rfl⟩
  obtain ⟨d3, hd3⟩ : ∃ d, (ts.all fun t => inB t 0 (tilesL W H - 1)) = d := ⟨_, rfl⟩
  obtain ⟨M, hM⟩ : ∃ M, dtsR W H fs ts = M := ⟨_, rfl⟩
  have HM : Hid (M = if d1 && (decide (ts.length ≤ 30) && d3) then ((W, H, tpixs W H fs ts (blankL (W * H).toNat)), true) else noFr) := Lib.hid (by rw [← hM]; unfold dtsR; rw [hd1, hd3])
  rw [hM]
  have H1 := Lib.hid hd1
  have H3 := Lib.hid hd3
  clear hf hi hsm hd1 hd3 hM
  go_enter Tryz.func16, Tryz.ntmps16
  go_wp2_with fail
  first | refine gen_calls ?_ | refine gen_code ?_ | refine gen_list ?_
  intro w0 hW
  obtain ⟨hb, hR0, hR4⟩ := new2 hW
  clear hW
  replace E := Lib.hid (Ext.trans E.out hb)
  replace Q := Lib.hid (Q.out.ext flR_stab hb)
  replace I := Lib.hid (I.out.ext intR_stab hb)
  clear hb
  have R0 := Lib.hid hR0
  have lR0 := R0.out.lt
  clear hR0
  have R4 := Lib.hid hR4
  have lR4 := R4.out.lt
  clear hR4
  have s0 := R0.out.cell_of (i := 0) rfl
  have s1 := R0.out.cell_of (i := 1) rfl
  have s2 := R0.out.cell_of (i := 2) rfl
  have r0 := R4.out.cell_of (i := 0) rfl
  have zr0 := R4.out.frozen 0
  have r1 := R4.out.cell_of (i := 1) rfl
  have zr1 := R4.out.frozen 1
  have r2 := R4.out.cell_of (i := 2) rfl
  have zr2 := R4.out.frozen 2
  go_wp2_with fail
  clear s0 s1 s2 r0 zr0 r1 zr1 r2 zr2
  refine (c_sValidScene W H As scap fs _ Q.out Hsm.out).mono ?_
  rw [H1.out]
  rintro e w1 ⟨rfl, hb⟩
  replace E := Lib.hid (Ext.trans E.out hb)
  replace Q := Lib.hid (Q.out.ext flR_stab hb)
  replace I := Lib.hid (I.out.ext intR_stab hb)
  replace R0 := Lib.hid (R0.out.ext hb)
  have lR0 := R0.out.lt
  replace R4 := Lib.hid (R4.out.ext hb)
  have lR4 := R4.out.lt
  clear hb
  have s0 := R0.out.cell_of (i := 0) rfl
  have s1 := R0.out.cell_of (i := 1) rfl
  have s2 := R0.out.cell_of (i := 2) rfl
  have r0 := R4.out.cell_of (i := 0) rfl
  have zr0 := R4.out.frozen 0
  have r1 := R4.out.cell_of (i := 1) rfl
  have zr1 := R4.out.frozen 1
  have r2 := R4.out.cell_of (i := 2) rfl
  have zr2 := R4.out.frozen 2
  cases d1
  · have hz : M = noFr := by rw [HM.out]; simp
    subst hz
    go_wp2
    exact bodyPost_ret (v := .tuple #[frV 0 0 none 0 0, .bool false]) (by simp [results, Tryz.results16, go_sem, r0, r1, r2]) rfl (RetFr.no (set3_below E.out (by omega) _ _ _))
  · obtain ⟨hW, hH⟩ := scB_sz H1.out
    by_cases h30 : ts.length ≤ 30
    · have h30I : decide ((30 : Int) < (ts.length : Int)) = false := by simp; omega
      have h30N : ¬ (30 : Int) < (ts.length : Int) := by omega
      have htb := tl_9 hW hH
      have hp := mul_12 hW hH
      obtain ⟨n, hn⟩ : ∃ n : Nat, W * H = (n : Int) := ⟨(W * H).toNat, by omega⟩
      have Hn := Lib.hid hn
      have hn144 : n ≤ 144 := by omega
      have HMn : Hid (M = if d3 then ((W, H, tpixs W H fs ts (blankL n)), true) else noFr) := Lib.hid (by rw [HM.out, hn, Int.toNat_natCast]; simp [h30])
      have HOK := Lib.hid (scB_all H1.out)
      have HL4 := scB_le H1.out
      clear hn hp
      have g1 : IntKind.i64.wrap (tilesL W H - 1) = tilesL W H - 1 := IntWalk.i64_in _ (by omega)
      go_wp2_with fail
      refine (c_tiles W H _ hW hH).mono ?_
      rintro e w' ⟨rfl, rfl⟩
      go_wp2_with fail
      refine (c_allIn At tcap ts 0 (tilesL W H - 1) _ I.out (by omega)).mono ?_
      rw [H3.out]
      rintro e w' ⟨rfl, rfl⟩
      cases d3
      · have hz : M = noFr := by rw [HMn.out]; simp
        subst hz
        go_wp2
        exact bodyPost_ret (v := .tuple #[frV 0 0 none 0 0, .bool false]) (by simp [results, Tryz.results16, go_sem, r0, r1, r2]) rfl (RetFr.no (set3_below E.out (by omega) _ _ _))
      · have Hz : Hid (M = ((W, H, tpixs W H fs ts (blankL n)), true)) := Lib.hid (by rw [HMn.out]; simp)
        have Hall : Hid (∀ (k : Nat) (hk : k < ts.length), tlB W H ts[k] = true) := Lib.hid (fun k hk => by rw [tl_in hW hH]; exact List.all_eq_true.1 H3.out _ (List.getElem_mem hk))
        have hz1 : w.heap.size ≤ w1.heap.size := E.out.size
        go_wp2_with fail
        clear s0 s1 s2 r0 zr0 r1 zr1 r2 zr2
        refine (c_sblank W H n _ Hn.out hW hH).mono ?_
        rintro e w2 ⟨A2, rfl, ho2, hb⟩
        replace E := Lib.hid (Ext.trans E.out hb)
        replace Q := Lib.hid (Q.out.ext flR_stab hb)
        replace I := Lib.hid (I.out.ext intR_stab hb)
        replace R0 := Lib.hid (R0.out.ext hb)
        have lR0 := R0.out.lt
        replace R4 := Lib.hid (R4.out.ext hb)
        have lR4 := R4.out.lt
        clear hb
        have O := Lib.hid (ho2)
        clear ho2
        have s0 := R0.out.cell_of (i := 0) rfl
        have s1 := R0.out.cell_of (i := 1) rfl
        have s2 := R0.out.cell_of (i := 2) rfl
        have r0 := R4.out.cell_of (i := 0) rfl
        have zr0 := R4.out.frozen 0
        have r1 := R4.out.cell_of (i := 1) rfl
        have zr1 := R4.out.frozen 1
        have r2 := R4.out.cell_of (i := 2) rfl
        have zr2 := R4.out.frozen 2
        have HZ2 := Lib.hid (E.out.size : w.heap.size ≤ w2.heap.size)
        have HZL := Lib.hid (show w.heap.size + 1 < w2.heap.size from R4.out.lt)
        go_wp2_with fail
        clear s0 s1 s2 r0 zr0 r1 zr1 r2 zr2
        first | refine gen_calls ?_ | refine gen_code ?_ | refine gen_list ?_
        intro w3 hW
        obtain ⟨hb, hR6⟩ := new1 hW
        clear hW
        replace E := Lib.hid (Ext.trans E.out hb)
        replace Q := Lib.hid (Q.out.ext flR_stab hb)
        replace I := Lib.hid (I.out.ext intR_stab hb)
        replace R0 := Lib.hid (R0.out.ext hb)
        have lR0 := R0.out.lt
        replace R4 := Lib.hid (R4.out.ext hb)
        have lR4 := R4.out.lt
        replace O := Lib.hid (own_ext O.out hb)
        clear hb
        have R6 := Lib.hid hR6
        have lR6 := R6.out.lt
        clear hR6
        have s0 := R0.out.cell_of (i := 0) rfl
        have s1 := R0.out.cell_of (i := 1) rfl
        have s2 := R0.out.cell_of (i := 2) rfl
        have r0 := R4.out.cell_of (i := 0) rfl
        have zr0 := R4.out.frozen 0
        have r1 := R4.out.cell_of (i := 1) rfl
        have zr1 := R4.out.frozen 1
        have r2 := R4.out.cell_of (i := 2) rfl
        have zr2 := R4.out.frozen 2
        replace O := Lib.hid (O.out.rebase hz1)
        clear s0 s1 s2 r0 zr0 r1 zr1 r2 zr2
        go_loopw [7] (fun i wr => ∃ (k : Nat) (A' : Option Addr) (cap' : Nat) (xs : List Bx4), k ≤ ts.length ∧ i = .int .i64 k ∧ xs = tpixs W H fs (ts.take k) (blankL n) ∧ xs.length = n ∧ Has wr w.heap.size 63 4 (.slice A' n cap') n (xs.flatMap bxC) ∧ Row wr w2.heap.size 32 [.int .i64 W, .int .i64 H, .slice A' n cap'] ∧ Row wr w.heap.size 38 [.int .i64 W, .int .i64 H, .slice As fs.length scap] ∧ Row wr (w.heap.size + 1) 32 [.int .i64 0, .int .i64 0, .slice none 0 0] ∧ Below w.heap.size w wr) (fun i _ => ts.length - (intOf i).toNat)
        case atStart => exact ⟨0, A2, n, blankL n, Nat.zero_le _, rfl, (tpixs_zero W H fs _ ts).symm, blankL_len n, O.out, R6.out, R0.out, R4.out, E.out⟩
        case round =>
          obtain ⟨k, A', cap', xs, hk, rfl, hxs, hxl, hor, hr6, hr0, hr4, hbw⟩ := hrel
          clear O E R0 R4 R6
          have O := Lib.hid hor
          have E := Lib.hid hbw
          have R0 := Lib.hid hr0
          have R4 := Lib.hid hr4
          have R6 := Lib.hid hr6
          have Hxs := Lib.hid hxs
          have Hxl := Lib.hid hxl
          have hzr : w.heap.size ≤ wr.heap.size := hbw.size
          have hzw : w.heap.size ≤ w2.heap.size := HZ2.out
          have hzl := HZL.out
          have hne : w2.heap.size ≠ w.heap.size + 1 := by omega
          have hne0 : w2.heap.size ≠ w.heap.size := by omega
          clear hor hbw hr0 hr4 hr6 hxs hxl
          by_cases hlt : k < ts.length
          · have hltI : decide ((k : Int) < (ts.length : Int)) = true := by simp; omega
            have hkI : (k : Int) < (ts.length : Int) := by omega
            have hk0 : (0 : Int) ≤ (k : Int) := by omega
            obtain ⟨bi, oi, hAt, _, hc⟩ := (IW.out.ext intR_stab E.out).ints (by omega)
            have ci := hc k hlt
            have KT : Hid (∀ Wd, Fls Wd As fs → Cos Wd A' xs → Calls Tryz.prog 27 #[frV W H A' n cap', .agg #[.int .i64 W, .int .i64 H, .slice As fs.length scap], .int .i64 ts[k]] Wd fun e w' => ∃ A'' cap'', e = .returned (frV W H A'' n cap'') ∧ Has w' Wd.heap.size 63 4 (.slice A'' n cap'') n ((tpixs W H fs (ts.take (k + 1)) (blankL n)).flatMap bxC) ∧ Below Wd.heap.size Wd w') := Lib.hid (fun Wd h1 h2 => by
              have h := c_tilePixels W H A' cap' xs As scap fs ts[k] Wd h1 h2 (by rw [Hxl.out]; exact Hn.out.symm) HOK.out HL4 hW hH (Hall.out k hlt)
              rw [Hxl.out] at h
              rw [tpixs_take W H fs hlt, ← Hxs.out]
              exact h)
            have KC : Hid (Cos wr A' xs) := Lib.hid (by have h := O.out; rw [← Hxl.out] at h; exact cos_own h)
            have Hl2 : Hid ((tpixs W H fs (ts.take (k + 1)) (blankL n)).length = n) := Lib.hid (by rw [tpixs_len, blankL_len])
            generalize hS : tpixs W H fs (ts.take (k + 1)) (blankL n) = S at *
            have HS := Lib.hid hS
            generalize ts[k] = t at *
            clear hc hS
            subst hAt
            have s0 := R0.out.cell_of (i := 0) rfl
            have s1 := R0.out.cell_of (i := 1) rfl
            have s2 := R0.out.cell_of (i := 2) rfl
            have m0 := R6.out.cell_of (i := 0) rfl
            have m1 := R6.out.cell_of (i := 1) rfl
            have m2 := R6.out.cell_of (i := 2) rfl
            go_wp2_with fail
            refine wp_region_calm [0,1,2,3,4,5] [6,7] (by kernel_rfl) (by kernel_rfl) ?_
            iterate 6 ((refine calm_yes rfl rfl (fun w' hC => (by have s0 := hC.cell s0; have s1 := hC.cell s1; have s2 := hC.cell s2; have m0 := hC.cell m0; have m1 := hC.cell m1; have m2 := hC.cell m2; have ci := hC.cell ci; go_simp; rfl)) (fun K hK => ?_); go_simp; refine hK _ ?_; clear hK K))
            refine calm_nil (fun wa hCa => ?_)
            clear s0 s1 s2 m0 m1 m2
            clear ci
            have Ea := ext_cls hCa
            refine late_fn rfl rfl rfl Tryz.func27 (by kernel_rfl) rfl (by go_simp) (fun wb hxb K hK => (KT.out wb (QW.out.ext flR_stab (Ext.trans (Ext.trans E.out Ea) hxb)) (KC.out.ext coR_stab (Ext.trans Ea hxb))).mono ?_)
            rintro e wc ⟨A9, cap9, rfl, ho9, hb⟩
            refine ⟨_, rfl, hK _ _ ⟨fun _ => Cls.ext (Cls.ext hCa hxb) hb, ?_⟩⟩
            clear hK K
            refine late_free (by kernel_rfl) rfl rfl (fun wf hxf K hK => ?_)
            have Ex := Ext.trans (Ext.trans Ea hxb) (Ext.trans hb hxf)
            have Rf := R6.out.ext Ex
            have e0 := Rf.cell_of (i := 0) rfl
            have z0 := Rf.frozen 0
            have q1 := Rf.set_ 0 (.int .i64 W)
            have e1 := q1.cell_of (i := 1) rfl
            have z1 := q1.frozen 1
            have q2 := q1.set_ 1 (.int .i64 H)
            have e2 := q2.cell_of (i := 2) rfl
            have z2 := q2.frozen 2
            go_simp
            refine hK _ _ ?_
            clear hK K e0 e1 e2 z0 z1 z2
            refine late_nil (fun wz hxz => ?_)
            have hg := sets3 wf w2.heap.size 0 (.int .i64 W) (.int .i64 H) (.slice A9 n cap9)
            have O2 := Lib.hid (own_ext (((own_ext ho9 hxf).rebase (Nat.le_trans hzr (Ext.trans Ea hxb).size)).keptB Rf (by decide) hg) hxz)
            have R62 := Lib.hid ((q2.set_ 2 (.slice A9 n cap9)).ext hxz)
            have R02 := Lib.hid (((R0.out.ext Ex).keptG hg (Ne.symm hne0)).ext hxz)
            have R42 := Lib.hid (((R4.out.ext Ex).keptG hg (Ne.symm hne)).ext hxz)
            have E2 := Lib.hid (Ext.trans (below_set (Ext.trans E.out Ex) hg hzw (Ext.trans E.out Ex).size) hxz)
            clear q1 q2 Rf hg ho9 hxz hxf hb hxb hCa Ea Ex
            go_wp2
            go_roundw
            case rel => exact ⟨k + 1, A9, cap9, S, by omega, by go_num, HS.out.symm, Hl2.out, O2.out, R62.out, R02.out, R42.out, E2.out⟩
            case measure => simp [intOf]; omega
          · obtain rfl : k = ts.length := by omega
            have hltI : decide ((ts.length : Int) < (ts.length : Int)) = false := by simp
            have Hf : Hid (M = ((W, H, xs), true)) := Lib.hid (by rw [Hz.out, Hxs.out, tpixs_all W H fs _ rfl])
            have hz := Hf.out
            subst hz
            clear Hz Hf HM HMn
            have m0 := R6.out.cell_of (i := 0) rfl
            have m1 := R6.out.cell_of (i := 1) rfl
            have m2 := R6.out.cell_of (i := 2) rfl
            have r0 := R4.out.cell_of (i := 0) rfl
            have zr0 := R4.out.frozen 0
            have r1 := R4.out.cell_of (i := 1) rfl
            have zr1 := R4.out.frozen 1
            have r2 := R4.out.cell_of (i := 2) rfl
            have zr2 := R4.out.frozen 2
            go_wp2
            clear m0 m1 m2 r0 zr0 r1 zr1 r2 zr2
            refine gen_post (fun Wd hW3 => ?_)
            have hg2 : wr.grownBy Wd (some (w.heap.size + 1)) := by rw [hW3]; exact sets3 wr _ 0 _ _ _
            have D := R4.out
            have D2 : Row Wd (w.heap.size + 1) 32 [.int .i64 W, .int .i64 H, .slice A' n cap'] := by
              rw [hW3]; exact ((D.set_ 0 _).set_ 1 _).set_ 2 _
            have y0 := D2.cell_of (i := 0) rfl
            have y1 := D2.cell_of (i := 1) rfl
            have y2 := D2.cell_of (i := 2) rfl
            have O9 := O.out.keptB D (by decide) hg2
            have E9 := below_set E.out hg2 (by omega) E.out.size
            refine bodyPost_ret (v := .tuple #[frV W H A' n cap', .bool true]) (by simp [results, Tryz.results16, go_sem, y0, y1, y2]) rfl ⟨A', cap', ?_, ?_, E9⟩
            · dsimp only; rw [Hxl.out]
            · dsimp only; rw [Hxl.out]; exact O9
    · have h30I : decide ((30 : Int) < (ts.length : Int)) = true := by simp; omega
      have h30P : (30 : Int) < (ts.length : Int) := by omega
      have hz : M = noFr := by rw [HM.out]; simp [h30]
      subst hz
      go_wp2
      exact bodyPost_ret (v := .tuple #[frV 0 0 none 0 0, .bool false]) (by simp [results, Tryz.results16, go_sem, r0, r1, r2]) rfl (RetFr.no (set3_below E.out (by omega) _ _ _))
set_option maxRecDepth 100000 in
set_option maxHeartbeats 8000000 in
theorem c_iDrawTiles (W H : Int) (As : Option Addr) (scap : Nat) (fs : List FlD) (At : Option Addr) (tcap : Nat) (ts : List Int) (w : World) (hf : Fls w As fs) (hi : Ints w At ts) (hsm : flsSm fs) (htl : ts.length ≤ 1048576) :
    Calls Tryz.prog 18 #[.agg #[.int .i64 W, .int .i64 H, .slice As fs.length scap], .slice At ts.length tcap] w fun e w' => RetFr w (dtsR W H fs ts) e w' := by
  have Q := Lib.hid hf
  have QW := Lib.hid hf
  have I := Lib.hid hi
  have IW := Lib.hid hi
  have Hsm := Lib.hid hsm
  have E := Lib.hid (Below.refl w.heap.size w)
  obtain ⟨d1, hd1⟩ : ∃ d, scB W H fs = d := ⟨_, rfl⟩
  obtain ⟨d3, hd3⟩ : ∃ d, (ts.all fun t => inB t 0 (tilesL W H - 1)) = d := ⟨_, rfl⟩
  obtain ⟨M, hM⟩ : ∃ M, dtsR W H fs ts = M := ⟨_, rfl⟩
  have HM : Hid (M = if d1 && (decide (ts.length ≤ 30) && d3) then ((W, H, tpixs W H fs ts (blankL (W * H).toNat)), true) else noFr) := Lib.hid (by rw [← hM]; unfold dtsR; rw [hd1, hd3])
  rw [hM]
  have H1 := Lib.hid hd1
  have H3 := Lib.hid hd3
  clear hf hi hsm hd1 hd3 hM
  go_enter Tryz.func18, Tryz.ntmps18
  go_wp2_with fail
  first | refine gen_calls ?_ | refine gen_code ?_ | refine gen_list ?_
  intro w0 hW
  obtain ⟨hb, hR0, hR4⟩ := new2 hW
  clear hW
  replace E := Lib.hid (Ext.trans E.out hb)
  replace Q := Lib.hid (Q.out.ext flR_stab hb)
  replace I := Lib.hid (I.out.ext intR_stab hb)
  clear hb
  have R0 := Lib.hid hR0
  have lR0 := R0.out.lt
  clear hR0
  have R4 := Lib.hid hR4
  have lR4 := R4.out.lt
  clear hR4
  have s0 := R0.out.cell_of (i := 0) rfl
  have s1 := R0.out.cell_of (i := 1) rfl
  have s2 := R0.out.cell_of (i := 2) rfl
  have r0 := R4.out.cell_of (i := 0) rfl
  have zr0 := R4.out.frozen 0
  have r1 := R4.out.cell_of (i := 1) rfl
  have zr1 := R4.out.frozen 1
  have r2 := R4.out.cell_of (i := 2) rfl
  have zr2 := R4.out.frozen 2
  go_wp2_with fail
  clear s0 s1 s2 r0 zr0 r1 zr1 r2 zr2
  refine (c_iValidScene W H As scap fs _ Q.out Hsm.out).mono ?_
  rw [H1.out]
  rintro e w1 ⟨rfl, hb⟩
  replace E := Lib.hid (Ext.trans E.out hb)
  replace Q := Lib.hid (Q.out.ext flR_stab hb)
  replace I := Lib.hid (I.out.ext intR_stab hb)
  replace R0 := Lib.hid (R0.out.ext hb)
  have lR0 := R0.out.lt
  replace R4 := Lib.hid (R4.out.ext hb)
  have lR4 := R4.out.lt
  clear hb
  have s0 := R0.out.cell_of (i := 0) rfl
  have s1 := R0.out.cell_of (i := 1) rfl
  have s2 := R0.out.cell_of (i := 2) rfl
  have r0 := R4.out.cell_of (i := 0) rfl
  have zr0 := R4.out.frozen 0
  have r1 := R4.out.cell_of (i := 1) rfl
  have zr1 := R4.out.frozen 1
  have r2 := R4.out.cell_of (i := 2) rfl
  have zr2 := R4.out.frozen 2
  cases d1
  · have hz : M = noFr := by rw [HM.out]; simp
    subst hz
    go_wp2
    exact bodyPost_ret (v := .tuple #[frV 0 0 none 0 0, .bool false]) (by simp [results, Tryz.results18, go_sem, r0, r1, r2]) rfl (RetFr.no (set3_below E.out (by omega) _ _ _))
  · obtain ⟨hW, hH⟩ := scB_sz H1.out
    by_cases h30 : ts.length ≤ 30
    · have h30I : decide ((30 : Int) < (ts.length : Int)) = false := by simp; omega
      have h30N : ¬ (30 : Int) < (ts.length : Int) := by omega
      have htb := tl_9 hW hH
      have hp := mul_12 hW hH
      obtain ⟨n, hn⟩ : ∃ n : Nat, W * H = (n : Int) := ⟨(W * H).toNat, by omega⟩
      have Hn := Lib.hid hn
      have hn144 : n ≤ 144 := by omega
      have HMn : Hid (M = if d3 then ((W, H, tpixs W H fs ts (blankL n)), true) else noFr) := Lib.hid (by rw [HM.out, hn, Int.toNat_natCast]; simp [h30])
      have HOK := Lib.hid (scB_all H1.out)
      have HL4 := scB_le H1.out
      clear hn hp
      have hz1 : w.heap.size ≤ w1.heap.size := E.out.size
      go_wp2_with fail
      clear s0 s1 s2 r0 zr0 r1 zr1 r2 zr2
      refine (c_iBlankFrame W H n _ Hn.out hW hH).mono ?_
      rintro e w2 ⟨A2, rfl, ho2, hb⟩
      replace E := Lib.hid (Ext.trans E.out hb)
      replace Q := Lib.hid (Q.out.ext flR_stab hb)
      replace I := Lib.hid (I.out.ext intR_stab hb)
      replace R0 := Lib.hid (R0.out.ext hb)
      have lR0 := R0.out.lt
      replace R4 := Lib.hid (R4.out.ext hb)
      have lR4 := R4.out.lt
      clear hb
      have O := Lib.hid (ho2)
      clear ho2
      have s0 := R0.out.cell_of (i := 0) rfl
      have s1 := R0.out.cell_of (i := 1) rfl
      have s2 := R0.out.cell_of (i := 2) rfl
      have r0 := R4.out.cell_of (i := 0) rfl
      have zr0 := R4.out.frozen 0
      have r1 := R4.out.cell_of (i := 1) rfl
      have zr1 := R4.out.frozen 1
      have r2 := R4.out.cell_of (i := 2) rfl
      have zr2 := R4.out.frozen 2
      have HZ2 := Lib.hid (E.out.size : w.heap.size ≤ w2.heap.size)
      have HZL := Lib.hid (show w.heap.size + 1 < w2.heap.size from R4.out.lt)
      go_wp2_with fail
      clear s0 s1 s2 r0 zr0 r1 zr1 r2 zr2
      first | refine gen_calls ?_ | refine gen_code ?_ | refine gen_list ?_
      intro w3 hW
      obtain ⟨hb, hR6⟩ := new1 hW
      clear hW
      replace E := Lib.hid (Ext.trans E.out hb)
      replace Q := Lib.hid (Q.out.ext flR_stab hb)
      replace I := Lib.hid (I.out.ext intR_stab hb)
      replace R0 := Lib.hid (R0.out.ext hb)
      have lR0 := R0.out.lt
      replace R4 := Lib.hid (R4.out.ext hb)
      have lR4 := R4.out.lt
      replace O := Lib.hid (own_ext O.out hb)
      clear hb
      have R6 := Lib.hid hR6
      have lR6 := R6.out.lt
      clear hR6
      have s0 := R0.out.cell_of (i := 0) rfl
      have s1 := R0.out.cell_of (i := 1) rfl
      have s2 := R0.out.cell_of (i := 2) rfl
      have r0 := R4.out.cell_of (i := 0) rfl
      have zr0 := R4.out.frozen 0
      have r1 := R4.out.cell_of (i := 1) rfl
      have zr1 := R4.out.frozen 1
      have r2 := R4.out.cell_of (i := 2) rfl
      have zr2 := R4.out.frozen 2
      replace O := Lib.hid (O.out.rebase hz1)
      clear s0 s1 s2 r0 zr0 r1 zr1 r2 zr2
      go_loopw [8, 25] (fun _ i wr => ∃ (k : Nat) (xs : List Bx4), k ≤ ts.length ∧ i = .int .i64 k ∧ xs = tpixs W H fs (ts.take k) (blankL n) ∧ ((ts.take k).all fun t => inB t 0 (tilesL W H - 1)) = true ∧ xs.length = n ∧ Has wr w.heap.size 63 4 (.slice A2 n n) n (xs.flatMap bxC) ∧ Row wr w2.heap.size 32 [.int .i64 W, .int .i64 H, .slice A2 n n] ∧ Row wr w.heap.size 38 [.int .i64 W, .int .i64 H, .slice As fs.length scap] ∧ Row wr (w.heap.size + 1) 32 [.int .i64 0, .int .i64 0, .slice none 0 0] ∧ Below w.heap.size w wr) (fun _ i _ => ts.length - (intOf i).toNat)
      case atStart => exact ⟨0, blankL n, Nat.zero_le _, rfl, (tpixs_zero W H fs _ ts).symm, by simp, blankL_len n, O.out, R6.out, R0.out, R4.out, E.out⟩
      case round =>
        obtain ⟨k, xs, hk, rfl, hxs, hal, hxl, hor, hr6, hr0, hr4, hbw⟩ := hrel
        clear O E R0 R4 R6
        have O := Lib.hid hor
        have E := Lib.hid hbw
        have R0 := Lib.hid hr0
        have R4 := Lib.hid hr4
        have R6 := Lib.hid hr6
        have Hxs := Lib.hid hxs
        have Hxl := Lib.hid hxl
        have Hal := Lib.hid hal
        have hzr : w.heap.size ≤ wr.heap.size := hbw.size
        clear hor hbw hr0 hr4 hr6 hxs hxl hal
        by_cases hlt : k < ts.length
        · have hltI : decide ((k : Int) < (ts.length : Int)) = true := by simp; omega
          have hkI : (k : Int) < (ts.length : Int) := by omega
          have hk0 : (0 : Int) ≤ (k : Int) := by omega
          obtain ⟨bi, oi, hAt, _, hc⟩ := (IW.out.ext intR_stab E.out).ints (by omega)
          have ci := hc k hlt
          have Hy : Hid (inB ts[k] 0 (tilesL W H - 1) = true → ((ts.take (k + 1)).all fun t => inB t 0 (tilesL W H - 1)) = true) := Lib.hid (fun h => all_take_succ Hal.out hlt h)
          have Hno : Hid (inB ts[k] 0 (tilesL W H - 1) = false → (ts.all fun t => inB t 0 (tilesL W H - 1)) = false) := Lib.hid (fun h => all_false_of hlt h)
          have KT : Hid (∀ Wd, Below w.heap.size w Wd → Has Wd w.heap.size 63 4 (.slice A2 n n) n (xs.flatMap bxC) → Calls Tryz.prog 33 #[frV W H A2 n n, .agg #[.int .i64 W, .int .i64 H, .slice As fs.length scap], .int .i64 ts[k]] Wd fun e w' => e = .returned (.bool (inB ts[k] 0 (tilesL W H - 1))) ∧ Has w' w.heap.size 63 4 (.slice A2 n n) n ((tpixs W H fs (ts.take (k + 1)) (blankL n)).flatMap bxC) ∧ Wd.grownBy w' (Value.slice A2 n n).ownBlock) := Lib.hid (fun Wd h1 h2 => by
            have h := c_fdraw W H A2 n xs As scap fs ts[k] w.heap.size w Wd QW.out h1 (Nat.le_refl _) (by rw [Hxl.out]; exact h2) (by rw [Hxl.out]; exact Hn.out.symm) HOK.out HL4 hW hH
            rw [Hxl.out, tl_in hW hH] at h
            rw [tpixs_take W H fs hlt, ← Hxs.out]
            exact h)
          have Hl2 : Hid ((tpixs W H fs (ts.take (k + 1)) (blankL n)).length = n) := Lib.hid (by rw [tpixs_len, blankL_len])
          generalize hS : tpixs W H fs (ts.take (k + 1)) (blankL n) = S at *
          have HS := Lib.hid hS
          obtain ⟨d, hd⟩ : ∃ d, inB ts[k] 0 (tilesL W H - 1) = d := ⟨_, rfl⟩
          rw [hd] at KT Hy Hno
          generalize ts[k] = t at *
          clear hc hS hd
          subst hAt
          have s0 := R0.out.cell_of (i := 0) rfl
          have s1 := R0.out.cell_of (i := 1) rfl
          have s2 := R0.out.cell_of (i := 2) rfl
          have m0 := R6.out.cell_of (i := 0) rfl
          have m1 := R6.out.cell_of (i := 1) rfl
          have m2 := R6.out.cell_of (i := 2) rfl
          go_wp2_with fail
          clear s0 s1 s2 m0 m1 m2
          clear ci
          refine (KT.out _ E.out O.out).mono ?_
          rintro e w5 ⟨rfl, ho5, hg5⟩
          replace R0 := Lib.hid (R0.out.grownNe O.out (by decide) hg5)
          replace R4 := Lib.hid (R4.out.grownNe O.out (by decide) hg5)
          replace R6 := Lib.hid (R6.out.grownNe O.out (by decide) hg5)
          replace E := Lib.hid (own_below E.out O.out hg5 hzr)
          replace O := Lib.hid ho5
          clear ho5 hg5
          cases d
          · have hz : M = noFr := by rw [HMn.out, ← H3.out, Hno.out rfl]; simp
            subst hz
            have r0 := R4.out.cell_of (i := 0) rfl
            have zr0 := R4.out.frozen 0
            have r1 := R4.out.cell_of (i := 1) rfl
            have zr1 := R4.out.frozen 1
            have r2 := R4.out.cell_of (i := 2) rfl
            have zr2 := R4.out.frozen 2
            go_wp2
            exact bodyPost_ret (v := .tuple #[frV 0 0 none 0 0, .bool false]) (by simp [results, Tryz.results18, go_sem, r0, r1, r2]) rfl (RetFr.no (set3_below E.out (by omega) _ _ _))
          · go_wp2
            go_roundw
            case rel => exact ⟨k + 1, S, by omega, by go_num, HS.out.symm, Hy.out (by simp), Hl2.out, O.out, R6.out, R0.out, R4.out, E.out⟩
            case measure => simp [intOf]; omega
        · obtain rfl : k = ts.length := by omega
          have hltI : decide ((ts.length : Int) < (ts.length : Int)) = false := by simp
          have Hf : Hid (M = ((W, H, xs), true)) := Lib.hid (by
            have h3 := Hal.out
            rw [List.take_length, H3.out] at h3
            rw [HMn.out, h3, Hxs.out, tpixs_all W H fs _ rfl]; rfl)
          have hz := Hf.out
          subst hz
          clear Hf HM HMn
          have m0 := R6.out.cell_of (i := 0) rfl
          have m1 := R6.out.cell_of (i := 1) rfl
          have m2 := R6.out.cell_of (i := 2) rfl
          have r0 := R4.out.cell_of (i := 0) rfl
          have zr0 := R4.out.frozen 0
          have r1 := R4.out.cell_of (i := 1) rfl
          have zr1 := R4.out.frozen 1
          have r2 := R4.out.cell_of (i := 2) rfl
          have zr2 := R4.out.frozen 2
          go_wp2
          clear m0 m1 m2 r0 zr0 r1 zr1 r2 zr2
          refine gen_post (fun Wd hW3 => ?_)
          have hg2 : wr.grownBy Wd (some (w.heap.size + 1)) := by rw [hW3]; exact sets3 wr _ 0 _ _ _
          have D := R4.out
          have D2 : Row Wd (w.heap.size + 1) 32 [.int .i64 W, .int .i64 H, .slice A2 n n] := by
            rw [hW3]; exact ((D.set_ 0 _).set_ 1 _).set_ 2 _
          have y0 := D2.cell_of (i := 0) rfl
          have y1 := D2.cell_of (i := 1) rfl
          have y2 := D2.cell_of (i := 2) rfl
          have O9 := O.out.keptB D (by decide) hg2
          have E9 := below_set E.out hg2 (by omega) E.out.size
          refine bodyPost_ret (v := .tuple #[frV W H A2 n n, .bool true]) (by simp [results, Tryz.results18, go_sem, y0, y1, y2]) rfl ⟨A2, n, ?_, ?_, E9⟩
          · dsimp only; rw [Hxl.out]
          · dsimp only; rw [Hxl.out]; exact O9
    · have h30I : decide ((30 : Int) < (ts.length : Int)) = true := by simp; omega
      have h30P : (30 : Int) < (ts.length : Int) := by omega
      have hz : M = noFr := by rw [HM.out]; simp [h30]
      subst hz
      go_wp2
      exact bodyPost_ret (v := .tuple #[frV 0 0 none 0 0, .bool false]) (by simp [results, Tryz.results18, go_sem, r0, r1, r2]) rfl (RetFr.no (set3_below E.out (by omega) _ _ _))
end Go.Proofs.YthjmpofdpmlhmaaGreat
