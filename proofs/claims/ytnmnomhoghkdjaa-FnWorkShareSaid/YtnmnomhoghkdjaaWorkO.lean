/-
  What the reference's workers draw: the walks.
-/
import Derived.Test.YtnmnomhoghkdjaaWorkV
namespace Go.Proofs.Ytnmnomhoghkdjaa
open Go Go.RowKit Reg
attribute [local go_sem] calmAt calmUpon
set_option maxHeartbeats 2000000 in
theorem c_validTurns (W : Int) (A : Option Addr) (cap : Nat) (ts : List Pt) (w : World) (h : Pts w A ts) (hl : ts.length ≤ 4611686018427387904) :
    Calls Try.prog 34 #[.int .i64 W, .slice A ts.length cap] w fun e w' => e = .returned (.bool (wvB W ts)) ∧ w = w' := by
  by_cases hW : inB W 1 4 = true
  · have hW2 := inB_iff.1 hW
    have HW := Lib.hid hW
    have H := Lib.hid h
    obtain ⟨V, hV⟩ : ∃ V, wvB W ts = V := ⟨_, rfl⟩
    rw [hV]
    have HV : Hid (V = (decide (ts.length ≤ 30) && ts.all (trB W))) := Lib.hid (by rw [← hV]; unfold wvB; rw [hW]; rfl)
    have hwr : W - 1 ≤ 3 ∧ 0 ≤ W - 1 := by omega
    clear h hV hW
    go_enter Try.func34, Try.ntmps34
    go_wp2_with fail
    go_loopw [5] (fun i wr => ∃ k : Nat, k ≤ ts.length ∧ i = .int .i64 k ∧ (ts.take k).all (trB W) = true ∧ wr = w) (fun i _ => ts.length - (intOf i).toNat)
    case atStart => exact ⟨0, Nat.zero_le _, rfl, by simp, rfl⟩
    case round =>
      obtain ⟨k, hk, rfl, hal, rfl⟩ := hrel
      have Hal := Lib.hid hal
      clear hal
      by_cases hlt : k < ts.length
      · obtain ⟨b, off, hA, _hb, hc⟩ := H.out.pts (by omega)
        obtain ⟨cx, cy⟩ := hc k hlt
        have hkd : decide ((k : Int) < (ts.length : Int)) = true := by simp; omega
        have hkI : (k : Int) < (ts.length : Int) := by omega
        have Hv := Lib.hid (fun (hv : trB W ts[k] = true) => all_take_succ Hal.out hlt hv)
        have Hv2 := Lib.hid (fun (hv : trB W ts[k] = false) => all_false_of hlt hv)
        clear hc
        generalize ts[k] = t at *
        obtain ⟨x, y⟩ := t
        dsimp only at cx cy
        subst hA
        obtain ⟨d1, hd1⟩ : ∃ d, inB x 0 (W - 1) = d := ⟨_, rfl⟩
        obtain ⟨d2, hd2⟩ : ∃ d, inB y 0 (W - 1) = d := ⟨_, rfl⟩
        have Ht : Hid (trB W (x, y) = (d1 && d2)) := Lib.hid (by unfold trB; rw [hd1, hd2])
        have Hd1 := Lib.hid hd1
        have Hd2 := Lib.hid hd2
        clear hd1 hd2
        go_wp2_with fail
        refine (c_inRange x 0 (W - 1) _).mono ?_
        rw [Hd1.out]
        rintro e w' ⟨rfl, rfl⟩
        cases d1
        · have Hf : Hid (V = false) := Lib.hid (by rw [HV.out, Hv2.out (by rw [Ht.out]; rfl)]; simp)
          go_wp2
          go_ret
          exact ⟨ret_bb Hf.out.symm, rfl⟩
        · go_wp2_with fail
          refine (c_inRange y 0 (W - 1) _).mono ?_
          rw [Hd2.out]
          rintro e w' ⟨rfl, rfl⟩
          cases d2
          · have Hf : Hid (V = false) := Lib.hid (by rw [HV.out, Hv2.out (by rw [Ht.out]; rfl)]; simp)
            go_wp2
            go_ret
            exact ⟨ret_bb Hf.out.symm, rfl⟩
          · have Hn := Lib.hid (Hv.out (by rw [Ht.out]; rfl))
            go_wp2
            go_roundw
            case rel => exact ⟨k + 1, by omega, by go_num, Hn.out, trivial⟩
            case measure => simp [intOf]; omega
      · have hkd : decide ((k : Int) < (ts.length : Int)) = false := by simp; omega
        have hk' : k = ts.length := by omega
        have Hf : Hid (V = decide (ts.length ≤ 30)) := Lib.hid (by rw [HV.out, all_of_take Hal.out hk']; simp)
        clear hk'
        go_wp2_with fail
        refine (c_inRange W 1 4 _).mono ?_
        rw [HW.out]
        rintro e w' ⟨rfl, rfl⟩
        by_cases h30 : ts.length ≤ 30
        · have h30' : ((ts.length : Nat) : Int) ≤ 30 := by omega
          go_wp2
          go_ret
          exact ⟨ret_bb (by rw [Hf.out]; simp; omega), rfl⟩
        · have h30' : ¬ ((ts.length : Nat) : Int) ≤ 30 := by omega
          go_wp2
          go_ret
          exact ⟨ret_bb (by rw [Hf.out]; simp; omega), rfl⟩
  · have hV : wvB W ts = false := by unfold wvB; rw [Bool.not_eq_true] at hW; rw [hW]; rfl
    rw [hV]
    rw [Bool.not_eq_true] at hW
    have HW := Lib.hid hW
    have H := Lib.hid h
    clear h hV hW
    go_enter Try.func34, Try.ntmps34
    go_wp2_with fail
    go_loopw [5] (fun i wr => ∃ k : Nat, k ≤ ts.length ∧ i = .int .i64 k ∧ wr = w) (fun i _ => ts.length - (intOf i).toNat)
    case atStart => exact ⟨0, Nat.zero_le _, rfl, rfl⟩
    case round =>
      obtain ⟨k, hk, rfl, rfl⟩ := hrel
      by_cases hlt : k < ts.length
      · obtain ⟨b, off, hA, _hb, hc⟩ := H.out.pts (by omega)
        obtain ⟨cx, cy⟩ := hc k hlt
        have hkd : decide ((k : Int) < (ts.length : Int)) = true := by simp; omega
        have hkI : (k : Int) < (ts.length : Int) := by omega
        clear hc
        generalize ts[k] = t at *
        obtain ⟨x, y⟩ := t
        dsimp only at cx cy
        subst hA
        obtain ⟨W1, hW1⟩ : ∃ W1, IntKind.i64.wrap (W - 1) = W1 := ⟨_, rfl⟩
        obtain ⟨d1, hd1⟩ : ∃ d, inB x 0 W1 = d := ⟨_, rfl⟩
        obtain ⟨d2, hd2⟩ : ∃ d, inB y 0 W1 = d := ⟨_, rfl⟩
        have Hd1 := Lib.hid hd1
        have Hd2 := Lib.hid hd2
        clear hd1 hd2
        go_wp2_with fail
        refine (c_inRange x 0 W1 _).mono ?_
        rw [Hd1.out]
        rintro e w' ⟨rfl, rfl⟩
        cases d1
        · go_wp2
          go_ret
          exact ⟨rfl, rfl⟩
        · go_wp2_with fail
          refine (c_inRange y 0 W1 _).mono ?_
          rw [Hd2.out]
          rintro e w' ⟨rfl, rfl⟩
          cases d2
          · go_wp2
            go_ret
            exact ⟨rfl, rfl⟩
          · go_wp2
            go_roundw
            case rel => exact ⟨k + 1, by omega, by go_num, trivial⟩
            case measure => simp [intOf]; omega
      · have hkd : decide ((k : Int) < (ts.length : Int)) = false := by simp; omega
        go_wp2_with fail
        refine (c_inRange W 1 4 _).mono ?_
        rw [HW.out]
        rintro e w' ⟨rfl, rfl⟩
        go_wp2
        go_ret
        exact ⟨rfl, rfl⟩
/-- Tiles drawn, returned in a row of their own. -/
def RetDn (w : World) (L : List Pt) (e : Ending) (w' : World) : Prop := ∃ A cap, e = .returned (.slice A L.length cap) ∧ Has w' w.heap.size 31 2 (.slice A L.length cap) L.length (L.flatMap ptC) ∧ Below w.heap.size w w'
theorem RetDn.none {w w' : World} {L : List Pt} (h : L = []) (hb : Below w.heap.size w w') : RetDn w L (.returned (.slice Option.none 0 0)) w' := by subst h; exact ⟨Option.none, 0, rfl, own_nil _ _ _ _, hb⟩
theorem has_row2 {w8 : World} {n7 B e e2 sz n : Nat} {v : Value} {cs rs : List Value} (u0 u1 : Value) (h : Has w8 B e sz v n cs) (hR : Row w8 n7 e2 rs) (he : e2 ≠ e) : Has ((w8.setCell ⟨n7, 0, none⟩ u0).setCell ⟨n7, 1, none⟩ u1) B e sz v n cs :=
  h.kept (only_set (only_set (only_refl w8 _) 0 _) 1 _) (.inr fun hh => ne_block hR h (Ne.symm he) hh.symm)
theorem ds_row2 {w8 : World} {n7 e2 : Nat} {ds : List Dq} {qs : List (List Int)} {rs : List Value} (u0 u1 : Value) (h : DsAre w8 ds qs) (hR : Row w8 n7 e2 rs) (he : e2 ≠ 3) : DsAre ((w8.setCell ⟨n7, 0, none⟩ u0).setCell ⟨n7, 1, none⟩ u1) ds qs :=
  ⟨h.1, fun i h1 h2 => by
    obtain ⟨t, h1, h2, h3, h4, h5⟩ := h.2 i h1 h2
    exact ⟨t, h1, h2, h3, has_row2 u0 u1 h4 hR he, h5⟩⟩
theorem NE_TD : (53 : TypeId) ≠ 71 := by decide
theorem NE_TI : (53 : TypeId) ≠ 3 := by decide
theorem NE_TN : (53 : TypeId) ≠ 31 := by decide
theorem NE_ND : (31 : TypeId) ≠ 71 := by decide
theorem NE_NI : (31 : TypeId) ≠ 3 := by decide
set_option maxRecDepth 100000 in
set_option maxHeartbeats 4000000 in
theorem c_run (n W : Nat) (A : Option Addr) (cap : Nat) (sc : List Pt) (w : World) (h : Pts w A sc) (hn : n ≤ 16) (h1 : 0 < W) (h4 : W ≤ 4) (hl : sc.length ≤ 30) (hs : ScOk W sc) :
    Calls Try.prog 35 #[.int .i64 n, .int .i64 W, .slice A sc.length cap] w fun e w' => RetDn w (workL W n sc) e w' := by
  have H := Lib.hid h
  have h0 := Lib.hid h
  have Hs := Lib.hid hs
  have Hpop := Lib.hid (fun i => (wSt_perm (n := n) h1 hs i))
  have E := Lib.hid (Below.refl w.heap.size w)
  clear h hs
  go_enter Try.func35, Try.ntmps35
  go_wp2_with fail
  first | refine gen_calls ?_ | refine gen_code ?_ | refine gen_list ?_
  intro w0 hW
  obtain ⟨hb, hR⟩ := new1 hW
  clear hW
  replace E := Lib.hid (Ext.trans E.out hb)
  replace H := Lib.hid (H.out.ext ptR_stab hb)
  clear hb
  have R := Lib.hid hR
  have lR := R.out.lt
  clear hR
  have O := Lib.hid (own_of_row (n := 0) (B := w.heap.size) (sz := 2) R.out (Nat.le_refl _) rfl (by decide))
  clear R lR
  have hz0 : w.heap.size ≤ w0.heap.size := E.out.size
  go_wp2_with fail
  refine (c_start n W _ hn h4).mono ?_
  rintro e w1 ⟨A2, cap2, ds, rfl, hod, hds, hb⟩
  replace E := Lib.hid (Ext.trans E.out hb)
  replace H := Lib.hid (H.out.ext ptR_stab hb)
  replace O := Lib.hid (own_ext O.out hb)
  clear hb
  have D := Lib.hid (hod.rebase hz0)
  have Ds := Lib.hid hds
  clear hod hds
  replace H := h0
  clear h0
  go_wp2_with fail
  go_loopw [7, 8, 9, 10, 11, 12] (fun o l i _ _ _ wr => ∃ (k : Nat) (A1 : Option Addr) (cap1 : Nat) (out : List Pt) (A2 : Option Addr) (cap2 : Nat) (ds : List Dq), k ≤ 94 ∧ i = .int .i64 k ∧ o = .slice A1 out.length cap1 ∧ l = .slice A2 ds.length cap2 ∧ out = (wSt W n sc k).2 ∧ Has wr w.heap.size 31 2 (.slice A1 out.length cap1) out.length (out.flatMap ptC) ∧ Has wr w.heap.size 71 3 (.slice A2 ds.length cap2) ds.length (ds.flatMap dqC) ∧ DsAre wr ds (wSt W n sc k).1 ∧ Below w.heap.size w wr) (fun _ _ i _ _ _ _ => 94 - (intOf i).toNat)
  case atStart => exact ⟨0, _, 0, [], A2, cap2, ds, Nat.zero_le _, rfl, rfl, rfl, rfl, O.out, D.out, Ds.out, E.out⟩
  case round =>
    clear O D Ds E
    obtain ⟨k, A1, cap1, out, A2, cap2, ds, hk, rfl, rfl, rfl, hout, ho, hd, hds, hbw⟩ := hrel
    have O := Lib.hid ho
    have D := Lib.hid hd
    have Ds := Lib.hid hds
    have E := Lib.hid hbw
    have hzr : w.heap.size ≤ wr.heap.size := hbw.size
    have hol : out.length ≤ n := by rw [hout]; exact wSt_le h1 Hs.out k
    have Hend := Lib.hid (fun (h : ¬ out.length < n) => wSt_end h1 h4 hn Hs.out hl hk (by rw [← hout]; exact h))
    have hmore := fun (h : out.length < n) => wSt_more (i := k) h1 h4 hn Hs.out hl (by rw [← hout]; exact h)
    have hdl : ds.length = W := by have := hds.1; rw [wSt_len] at this; exact this
    have Hout := Lib.hid hout
    have Hdl := Lib.hid hdl
    have hdl4 : ds.length ≤ 4 := by omega
    rw [← hout] at Hend
    clear ho hd hds hbw hout hdl
    by_cases hlt : out.length < n
    · have hltI : decide ((out.length : Int) < (n : Int)) = true := by simp; omega
      have hk94 := hmore hlt
      clear hmore
      obtain ⟨hta, htb⟩ := turnAt_lt h1 Hs.out k
      have hst : wSt W n sc (k + 1) = stepW (wSt W n sc k) (turnAt W sc k) := rfl
      have hqn : ∀ q ∈ (wSt W n sc k).1, ∀ x ∈ q, 0 ≤ x := fun q hq x hx => by
        have hp := (Hpop.out k).subset (List.mem_append_right _ (List.mem_flatten.2 ⟨q, hq, hx⟩))
        obtain ⟨t, _, rfl⟩ := List.mem_map.1 hp
        omega
      have Hst : Hid (wSt W n sc (k + 1) = ((popQ (wSt W n sc k).1 (turnAt W sc k).1 (turnAt W sc k).2).1, if 0 ≤ (popQ (wSt W n sc k).1 (turnAt W sc k).1 (turnAt W sc k).2).2 then out ++ [(((turnAt W sc k).1 : Int), (popQ (wSt W n sc k).1 (turnAt W sc k).1 (turnAt W sc k).2).2)] else out)) := Lib.hid (by
        rw [hst, ← stepW_popQ _ _ _ _ (by rw [wSt_len]; exact hta) (by rw [wSt_len]; exact htb) hqn, Hout.out])
      have Hta := Lib.hid (show turnAt W sc k = (match sc[k]? with | some t => (t.1.toNat, t.2.toNat) | none => (k % W, (k + 1) % W)) from rfl)
      have Hlen := Lib.hid (wSt_len (W := W) (n := n) (sc := sc) k)
      clear hst hqn
      generalize turnAt W sc k = tt at *
      generalize (wSt W n sc k).1 = qs at *
      obtain ⟨a, b⟩ := tt
      dsimp only at hta htb Hst
      have hm1 : Int.tmod (k : Int) (W : Int) = ((k % W : Nat) : Int) := tmod_nat k W
      have hm2 : Int.tmod ((k : Int) + 1) (W : Int) = (((k + 1) % W : Nat) : Int) := tmod_nat1 k W 1
      have hW0 : ¬ W = 0 := by omega
      have hwr : IntKind.i64.wrap ((k : Int) + 1) = (k : Int) + 1 := IntWalk.i64_in _ (by omega)
      have hwm1 : IntKind.i64.wrap ((k % W : Nat) : Int) = ((k % W : Nat) : Int) := IntWalk.i64_in _ (by have := Nat.mod_lt k h1; omega)
      have hwm2 : IntKind.i64.wrap (((k + 1) % W : Nat) : Int) = (((k + 1) % W : Nat) : Int) := IntWalk.i64_in _ (by have := Nat.mod_lt (k + 1) h1; omega)
      obtain ⟨m1, hm1'⟩ : ∃ m1, m1 = k % W := ⟨_, rfl⟩
      obtain ⟨m2, hm2'⟩ : ∃ m2, m2 = (k + 1) % W := ⟨_, rfl⟩
      rw [← hm1'] at hm1 hwm1 Hta
      rw [← hm2'] at hm2 hwm2 Hta
      clear hm1' hm2'
      go_wp2_with fail
      refine wp_region_calm [0,1,2,3,4,5,6,7] [8,9] (by kernel_rfl) (by kernel_rfl) ?_
      (refine calm_yes rfl rfl (fun w' hC => (by go_simp; rfl)) (fun K hK => ?_); go_simp; refine hK _ ?_; clear hK K)
      (refine calm_yes rfl rfl (fun w' hC => (by go_simp; rfl)) (fun K hK => ?_); go_simp; refine hK _ ?_; clear hK K)
      (refine calm_yes rfl rfl (fun w' hC => (by go_simp; rfl)) (fun K hK => ?_); go_simp; refine hK _ ?_; clear hK K)
      (refine calm_yes rfl rfl (fun w' hC => (by go_simp; rfl)) (fun K hK => ?_); go_simp; refine hK _ ?_; clear hK K)
      (refine calm_yes rfl rfl (fun w' hC => (by go_simp; rfl)) (fun K hK => ?_); go_simp; refine hK _ ?_; clear hK K)
      (refine calm_yes rfl rfl (fun w' hC => (by go_simp; rfl)) (fun K hK => ?_); go_simp; refine hK _ ?_; clear hK K)
      (refine calm_yes rfl rfl (fun w' hC => (by go_simp; rfl)) (fun K hK => ?_); go_simp; refine hK _ ?_; clear hK K)
      (refine calm_yes rfl rfl (fun w' hC => (by go_simp; rfl)) (fun K hK => ?_); go_simp; refine hK _ ?_; clear hK K)
      refine calm_nil (fun wa hCa => ?_)
      refine late_keep rfl rfl hCa (fun wbw2 hxb hCb K hK => ?_)
      go_simp
      refine hK _ _ (Below.alloc hCb hCb.size _) (fun _ => ?_)
      clear hK K
      refine late_free (by kernel_rfl) rfl rfl (fun wd hxd K hK => ?_)
      have hZ := (Row.new wbw2 53 [.int .i64 0, .int .i64 0]).ext hxd
      have Eb := Ext.trans (ext_cls hCa) hxb
      have hlbw2 := Eb.size
      have e0 := hZ.cell_of (i := 0) rfl
      have ze0 := hZ.frozen 0
      have e1 := hZ.cell_of (i := 1) rfl
      have ze1 := hZ.frozen 1
      go_simp
      refine hK _ _ ?_
      clear hK K e0 ze0 e1 ze1
      refine late_nil (fun w2 hxz => ?_)
      have hR : Row w2 wbw2.heap.size 53 [.int .i64 m1, .int .i64 m2] := ((hZ.set_ 0 _).set_ 1 _).ext hxz
      have EN := Ext.trans (((Ext.trans (Ext.trans Eb (ext_alloc _ _)) hxd).setCell (p := ⟨wbw2.heap.size, 0, none⟩) (by simp; omega) _).setCell (p := ⟨wbw2.heap.size, 1, none⟩) (by simp; omega) _) hxz
      replace E := Lib.hid (Ext.trans E.out EN)
      replace O := Lib.hid (own_ext O.out EN)
      replace D := Lib.hid (own_ext D.out EN)
      replace Ds := Lib.hid (Ds.out.ext EN)
      have T := Lib.hid hR
      have lT := T.out.lt
      clear hR EN hZ Eb hCa hCb hxb hxd hxz
      have htb0 : w.heap.size ≤ wbw2.heap.size := by omega
      by_cases hks : k < sc.length
      · have hkd : decide ((k : Int) < (sc.length : Int)) = true := by simp; omega
        have hkI : (k : Int) < (sc.length : Int) := by omega
        obtain ⟨bs, off, hA, _hb, hc⟩ := (H.out.ext ptR_stab E.out).pts (by omega)
        obtain ⟨cx, cy⟩ := hc k hks
        have hab : a = sc[k].1.toNat ∧ b = sc[k].2.toNat := by
          have := Hta.out
          rw [List.getElem?_eq_getElem hks] at this
          dsimp only at this
          injection this with e1 e2
          exact ⟨e1, e2⟩
        have hsk := Hs.out sc[k] (List.getElem_mem hks)
        have hx : sc[k].1 = (a : Int) := by omega
        have hy : sc[k].2 = (b : Int) := by omega
        rw [hx] at cx
        rw [hy] at cy
        have Cx := Lib.hid cx
        have Cy := Lib.hid cy
        clear hc hab hsk hx hy cx cy hm1 hm2 hwr hwm1 hwm2 hW0
        subst hA
        have cCx := Cx.out
        have cCy := Cy.out
        have t0 := T.out.cell_of (i := 0) rfl
        have zt0 := T.out.frozen 0
        have t1 := T.out.cell_of (i := 1) rfl
        have zt1 := T.out.frozen 1
        go_wp2_with fail
        refine gen_calls ?_
        intro w3 hw3
        have T3 := (T.out.set_ 0 (.int .i64 (a : Int))).set_ 1 (.int .i64 (b : Int))
        have E3 := (E.out.setCell (p := ⟨wbw2.heap.size, 0, none⟩) (by exact htb0) (.int .i64 (a : Int))).setCell (p := ⟨wbw2.heap.size, 1, none⟩) (by exact htb0) (.int .i64 (b : Int))
        have O3 := has_row2 (.int .i64 (a : Int)) (.int .i64 (b : Int)) O.out T.out NE_TN
        have D3 := has_row2 (.int .i64 (a : Int)) (.int .i64 (b : Int)) D.out T.out NE_TD
        have Ds3 := ds_row2 (.int .i64 (a : Int)) (.int .i64 (b : Int)) Ds.out T.out NE_TI
        rw [← hw3] at T3 E3 O3 D3 Ds3
        clear cCx cCy t0 zt0 t1 zt1
        clear hw3 Cx Cy T E O D Ds
        have T : Hid (Row w3 wbw2.heap.size 53 [.int .i64 (a : Int), .int .i64 (b : Int)]) := Lib.hid T3
        have E := Lib.hid E3
        have O := Lib.hid O3
        have D := Lib.hid D3
        have Ds := Lib.hid Ds3
        clear T3 E3 O3 D3 Ds3
        obtain ⟨Wz, hWz⟩ : ∃ Wz : World, Wz = w3 := ⟨_, rfl⟩
        subst hWz
        have KT := Lib.hid (fun Wd h1 h2 => c_turn A2 cap2 ds qs a b Wd h1 h2 (by have := Hdl.out; omega) (by have := Hdl.out; omega) hdl4)
        have hz3 : w.heap.size ≤ Wz.heap.size := E.out.size
        go_wp2_with fail
        refine (KT.out _ (own_in (R := dqR) (enc := dqC) dqC_len (by decide) D.out (fun _ => rfl)) Ds.out).mono ?_
        rintro e w4 ⟨A3, cap3, ds3, rfl, hod, hds, hb⟩
        replace E := Lib.hid (Ext.trans E.out hb)
        replace O := Lib.hid (own_ext O.out hb)
        replace Ds := Lib.hid (Ds.out.ext hb)
        replace T := Lib.hid (T.out.ext hb)
        have lT := T.out.lt
        clear hb
        have t0 := T.out.cell_of (i := 0) rfl
        have zt0 := T.out.frozen 0
        have t1 := T.out.cell_of (i := 1) rfl
        have zt1 := T.out.frozen 1
        clear D Ds KT Hdl
        have D := Lib.hid (hod.rebase hz3)
        have Ds := Lib.hid hds
        clear hod hds
        generalize popQ qs a b = pq at *
        obtain ⟨qs', tile⟩ := pq
        dsimp only at Hst Ds
        by_cases h0 : 0 ≤ tile
        · have h0d : decide (0 ≤ tile) = true := by simp; exact h0
          have Hn : Hid (wSt W n sc (k + 1) = (qs', out ++ [((a : Int), tile)])) := Lib.hid (by rw [Hst.out, if_pos h0])
          clear Hst
          have hz4 : w.heap.size ≤ w4.heap.size := E.out.size
          clear t0 zt0 t1 zt1
          have t0 := T.out.cell_of (i := 0) rfl
          have t1 := T.out.cell_of (i := 1) rfl
          go_wp2_with (at_builtin; refine wpList_app (base := w.heap.size) ei_done rfl (.tmp 48) (.tmp 53) rfl rfl (own_ext O.out (ext_alloc _ _)) rfl (src_new _ _ [_, _] (m := 1) rfl (by intro u hu; simp only [List.mem_cons, List.not_mem_nil, or_false] at hu; rcases hu with rfl | rfl <;> rfl)) (by omega) (by simp; omega) ?_; intro ve w5 hown hg hat; refine stop_in ?_)
          refine stop_out ?_
          obtain ⟨A4, cap4, hve⟩ := own_form hown
          replace Ds := Lib.hid ((Ds.out.ext (ext_alloc _ _)).grown (own_ext O.out (ext_alloc _ _)) NE_NI hg)
          clear t0 t1
          replace E := Lib.hid (Below.grown (Ext.trans E.out (ext_alloc _ _)) hg (by simp; omega) (fun k hk => by have := (O.out.lt k hk).1; omega))
          replace D := Lib.hid ((own_ext D.out (ext_alloc _ _)).grownNe (own_ext O.out (ext_alloc _ _)) (by decide) hg)
          replace T := Lib.hid ((T.out.ext (ext_alloc _ _)).grownNe (own_ext O.out (ext_alloc _ _)) (by decide) hg)
          have lT := T.out.lt
          have heq : out ++ [((a : Int), tile)] = (out ++ [((a : Int), tile)]) := rfl
          replace O : Hid (Has w5 w.heap.size 31 2 (.slice A4 ((out ++ [((a : Int), tile)])).length cap4) ((out ++ [((a : Int), tile)])).length (((out ++ [((a : Int), tile)])).flatMap ptC)) := Lib.hid (by
            have q := hown
            rw [hve] at q
            rw [← heq, List.flatMap_append, List.length_append]
            exact q)
          have hvf : ve = .slice A4 ((out ++ [((a : Int), tile)])).length cap4 := by rw [hve, ← heq, List.length_append]; rfl
          clear hve
          clear hown hg hat heq
          subst hvf
          have t0 := T.out.cell_of (i := 0) rfl
          have t1 := T.out.cell_of (i := 1) rfl
          go_wp2
          go_roundw
          case rel => exact ⟨k + 1, A4, cap4, _, A3, cap3, ds3, by omega, by go_num, rfl, rfl, by rw [Hn.out], O.out, D.out, by rw [Hn.out]; exact Ds.out, E.out⟩
          case measure => simp [intOf]; omega
        · have h0d : decide (0 ≤ tile) = false := by simp; omega
          have Hn : Hid (wSt W n sc (k + 1) = (qs', out)) := Lib.hid (by rw [Hst.out, if_neg h0])
          clear Hst
          clear t0 zt0 t1 zt1
          have t0 := T.out.cell_of (i := 0) rfl
          have t1 := T.out.cell_of (i := 1) rfl
          go_wp2
          go_roundw
          case rel => exact ⟨k + 1, A1, cap1, out, A3, cap3, ds3, by omega, by go_num, rfl, rfl, by rw [Hn.out], O.out, D.out, by rw [Hn.out]; exact Ds.out, E.out⟩
          case measure => simp [intOf]; omega
      · have hkd : decide ((k : Int) < (sc.length : Int)) = false := by simp; omega
        have hab : (a, b) = (m1, m2) := by
          have := Hta.out
          rw [List.getElem?_eq_none (by omega)] at this
          exact this
        injection hab with e1 e2
        subst e1 e2
        clear hm1 hm2 hwr hwm1 hwm2 hW0
        have t0 := T.out.cell_of (i := 0) rfl
        have zt0 := T.out.frozen 0
        have t1 := T.out.cell_of (i := 1) rfl
        have zt1 := T.out.frozen 1
        go_wp2_with fail
        clear t0 zt0 t1 zt1
        obtain ⟨Wz, hWz⟩ : ∃ Wz : World, Wz = w2 := ⟨_, rfl⟩
        subst hWz
        have KT := Lib.hid (fun Wd h1 h2 => c_turn A2 cap2 ds qs a b Wd h1 h2 (by have := Hdl.out; omega) (by have := Hdl.out; omega) hdl4)
        have hz3 : w.heap.size ≤ Wz.heap.size := E.out.size
        go_wp2_with fail
        refine (KT.out _ (own_in (R := dqR) (enc := dqC) dqC_len (by decide) D.out (fun _ => rfl)) Ds.out).mono ?_
        rintro e w4 ⟨A3, cap3, ds3, rfl, hod, hds, hb⟩
        replace E := Lib.hid (Ext.trans E.out hb)
        replace O := Lib.hid (own_ext O.out hb)
        replace Ds := Lib.hid (Ds.out.ext hb)
        replace T := Lib.hid (T.out.ext hb)
        have lT := T.out.lt
        clear hb
        have t0 := T.out.cell_of (i := 0) rfl
        have zt0 := T.out.frozen 0
        have t1 := T.out.cell_of (i := 1) rfl
        have zt1 := T.out.frozen 1
        clear D Ds KT Hdl
        have D := Lib.hid (hod.rebase hz3)
        have Ds := Lib.hid hds
        clear hod hds
        generalize popQ qs a b = pq at *
        obtain ⟨qs', tile⟩ := pq
        dsimp only at Hst Ds
        by_cases h0 : 0 ≤ tile
        · have h0d : decide (0 ≤ tile) = true := by simp; exact h0
          have Hn : Hid (wSt W n sc (k + 1) = (qs', out ++ [((a : Int), tile)])) := Lib.hid (by rw [Hst.out, if_pos h0])
          clear Hst
          have hz4 : w.heap.size ≤ w4.heap.size := E.out.size
          clear t0 zt0 t1 zt1
          have t0 := T.out.cell_of (i := 0) rfl
          have t1 := T.out.cell_of (i := 1) rfl
          go_wp2_with (at_builtin; refine wpList_app (base := w.heap.size) ei_done rfl (.tmp 48) (.tmp 53) rfl rfl (own_ext O.out (ext_alloc _ _)) rfl (src_new _ _ [_, _] (m := 1) rfl (by intro u hu; simp only [List.mem_cons, List.not_mem_nil, or_false] at hu; rcases hu with rfl | rfl <;> rfl)) (by omega) (by simp; omega) ?_; intro ve w5 hown hg hat; refine stop_in ?_)
          refine stop_out ?_
          obtain ⟨A4, cap4, hve⟩ := own_form hown
          replace Ds := Lib.hid ((Ds.out.ext (ext_alloc _ _)).grown (own_ext O.out (ext_alloc _ _)) NE_NI hg)
          clear t0 t1
          replace E := Lib.hid (Below.grown (Ext.trans E.out (ext_alloc _ _)) hg (by simp; omega) (fun k hk => by have := (O.out.lt k hk).1; omega))
          replace D := Lib.hid ((own_ext D.out (ext_alloc _ _)).grownNe (own_ext O.out (ext_alloc _ _)) (by decide) hg)
          replace T := Lib.hid ((T.out.ext (ext_alloc _ _)).grownNe (own_ext O.out (ext_alloc _ _)) (by decide) hg)
          have lT := T.out.lt
          have heq : out ++ [((a : Int), tile)] = (out ++ [((a : Int), tile)]) := rfl
          replace O : Hid (Has w5 w.heap.size 31 2 (.slice A4 ((out ++ [((a : Int), tile)])).length cap4) ((out ++ [((a : Int), tile)])).length (((out ++ [((a : Int), tile)])).flatMap ptC)) := Lib.hid (by
            have q := hown
            rw [hve] at q
            rw [← heq, List.flatMap_append, List.length_append]
            exact q)
          have hvf : ve = .slice A4 ((out ++ [((a : Int), tile)])).length cap4 := by rw [hve, ← heq, List.length_append]; rfl
          clear hve
          clear hown hg hat heq
          subst hvf
          have t0 := T.out.cell_of (i := 0) rfl
          have t1 := T.out.cell_of (i := 1) rfl
          go_wp2
          go_roundw
          case rel => exact ⟨k + 1, A4, cap4, _, A3, cap3, ds3, by omega, by go_num, rfl, rfl, by rw [Hn.out], O.out, D.out, by rw [Hn.out]; exact Ds.out, E.out⟩
          case measure => simp [intOf]; omega
        · have h0d : decide (0 ≤ tile) = false := by simp; omega
          have Hn : Hid (wSt W n sc (k + 1) = (qs', out)) := Lib.hid (by rw [Hst.out, if_neg h0])
          clear Hst
          clear t0 zt0 t1 zt1
          have t0 := T.out.cell_of (i := 0) rfl
          have t1 := T.out.cell_of (i := 1) rfl
          go_wp2
          go_roundw
          case rel => exact ⟨k + 1, A1, cap1, out, A3, cap3, ds3, by omega, by go_num, rfl, rfl, by rw [Hn.out], O.out, D.out, by rw [Hn.out]; exact Ds.out, E.out⟩
          case measure => simp [intOf]; omega
    · have hltI : decide ((out.length : Int) < (n : Int)) = false := by simp; omega
      have Hf := Lib.hid (Hend.out hlt)
      go_wp2
      go_ret
      rw [Hf.out]
      exact ⟨A1, cap1, rfl, O.out, E.out⟩
end Go.Proofs.Ytnmnomhoghkdjaa
