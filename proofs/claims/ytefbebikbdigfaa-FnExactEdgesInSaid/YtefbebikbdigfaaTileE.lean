/-
  The edges that touch a tile: both walks.
-/
import Derived.Test.YtefbebikbdigfaaTouch
namespace Go.Proofs.Ytefbebikbdigfaa
open Go Go.RowKit Reg
attribute [local go_sem] calmAt calmUpon
def edgesR (rs : List Rg) (wd ht tl : Int) : List Ed := if rgsB rs && tlB wd ht tl then touchL rs (tileL wd ht tl) else []
theorem edgesR_len (rs : List Rg) (wd ht tl : Int) : (edgesR rs wd ht tl).length ≤ 200 := by
  unfold edgesR
  split
  · rename_i h
    simp only [Bool.and_eq_true] at h
    exact Nat.le_trans (touchL_len _ _) (rgsB_iff.1 h.1).2.2
  · simp
theorem box2 (a b : Pt) : boxOfL [a, b] = (min a.1 b.1, min a.2 b.2, max a.1 b.1, max a.2 b.2) := by
  unfold boxOfL
  simp only [List.foldl_cons, List.foldl_nil, bxAdd, bxPt]
  simp
set_option maxHeartbeats 4000000 in
theorem c_sEdgesIn (A : Option Addr) (cap : Nat) (rs : List Rg) (wd ht tl : Int) (w : World) (h : Rgs w A rs) (hl : rs.length ≤ 1000000000) (hs : ∀ r ∈ rs, r.length ≤ 1000000000) :
    Calls Try.prog 8 #[.slice A rs.length cap, .int .i64 wd, .int .i64 ht, .int .i64 tl] w fun e w' => RetEd w (edgesR rs wd ht tl) e w' := by
  have K0 := Lib.hid (fun W (hW : Rgs W A rs) => c_sValidRings A cap rs W hW hl hs)
  have H := Lib.hid h
  clear h hs
  obtain ⟨S, hS⟩ : ∃ S, edgesR rs wd ht tl = S := ⟨_, rfl⟩
  rw [hS]
  obtain ⟨d1, hd1⟩ : ∃ d, rgsB rs = d := ⟨_, rfl⟩
  obtain ⟨d2, hd2⟩ : ∃ d, (inB wd 1 12 && inB ht 1 12) = d := ⟨_, rfl⟩
  obtain ⟨d3, hd3⟩ : ∃ d, inB tl 0 (tilesL wd ht - 1) = d := ⟨_, rfl⟩
  have HS : Hid (S = if (d1 && (d2 && d3)) = true then touchL rs (tileL wd ht tl) else []) := Lib.hid (by rw [← hS]; unfold edgesR tlB; rw [hd1, hd2, hd3])
  have H1 := Lib.hid hd1
  have H2 := Lib.hid hd2
  have H3 := Lib.hid hd3
  have E := Lib.hid (Below.refl w.heap.size w)
  have Hno : Hid (∀ b, (d1 && (d2 && d3)) = b → b = false → S = []) := Lib.hid (fun b h1 h2 => by rw [HS.out, h1, h2]; rfl)
  clear hS hd1 hd2 hd3
  go_enter Try.func8, Try.ntmps8
  go_wp2_with fail
  refine (K0.out _ H.out).mono ?_
  rw [H1.out]
  rintro e w1 ⟨rfl, hb⟩
  replace E := Lib.hid (Ext.trans E.out hb)
  replace H := Lib.hid (H.out.ext rgR_stab hb)
  clear hb
  cases d1
  · have Hf := Lib.hid (Hno.out _ rfl (by simp))
    go_wp2
    go_ret
    exact RetEd.none Hf.out E.out
  · go_wp2_with fail
    refine (c_validSize wd ht _).mono ?_
    rw [H2.out]
    rintro e w' ⟨rfl, rfl⟩
    cases d2
    · have Hf := Lib.hid (Hno.out _ rfl (by simp))
      go_wp2
      go_ret
      exact RetEd.none Hf.out E.out
    · have h2 := H2.out
      simp only [Bool.and_eq_true] at h2
      have h4 := inB_iff.1 h2.1
      have h5 := inB_iff.1 h2.2
      clear h2
      have htb : 1 ≤ tilesL wd ht ∧ tilesL wd ht ≤ 9 := by
        have hm : (1 ≤ acrL wd ∧ acrL wd ≤ 3) ∧ (1 ≤ acrL ht ∧ acrL ht ≤ 3) := by unfold acrL; omega
        unfold tilesL
        exact ⟨by have := Int.mul_le_mul hm.1.1 hm.2.1 (by omega) (by omega); omega, by have := Int.mul_le_mul hm.1.2 hm.2.2 (by omega) (by omega); omega⟩
      go_wp2_with fail
      refine (c_tiles wd ht _ h4 h5).mono ?_
      rintro e w' ⟨rfl, rfl⟩
      go_wp2_with fail
      refine (c_inRange tl 0 (tilesL wd ht - 1) _).mono ?_
      rw [H3.out]
      rintro e w' ⟨rfl, rfl⟩
      cases d3
      · have Hf := Lib.hid (Hno.out _ rfl (by simp))
        go_wp2
        go_ret
        exact RetEd.none Hf.out E.out
      · have Htl : Hid (tlB wd ht tl = true) := Lib.hid (by unfold tlB; rw [H2.out, H3.out]; rfl)
        have Hf : Hid (touchL rs (tileL wd ht tl) = S) := Lib.hid (by rw [HS.out]; simp)
        obtain ⟨_, _, _, _, _, _, hx, hy⟩ := tile_bd Htl.out
        have KB := Lib.hid (fun W => c_tileBox wd ht tl W Htl.out)
        generalize tileL wd ht tl = bx at *
        obtain ⟨l, t, rt, bt⟩ := bx
        dsimp only at hx hy
        go_wp2_with fail
        refine (KB.out _).mono ?_
        rintro e w2 ⟨rfl, hb⟩
        replace E := Lib.hid (Ext.trans E.out hb)
        replace H := Lib.hid (H.out.ext rgR_stab hb)
        clear hb
        have hz2 := E.out.size
        go_wp2_with fail
        refine (c_touched A cap rs l t rt bt _ H.out H1.out (by omega) (by omega) (by omega) (by omega)).mono ?_
        rw [Hf.out]
        rintro e w3 ⟨A', cap', rfl, ho, hb⟩
        have O := Lib.hid (ho.rebase hz2)
        replace E := Lib.hid (Ext.trans E.out hb)
        clear ho hb
        go_wp2
        go_ret
        exact ⟨A', cap', rfl, O.out, E.out⟩
theorem edC_one (e : Ed) : ∀ u ∈ edC e, u.oneCell' = true := by intro u hu; simp [edC] at hu; rcases hu with rfl | rfl | rfl | rfl <;> rfl
set_option maxRecDepth 100000 in
set_option maxHeartbeats 8000000 in
theorem c_iEdgesIn (A : Option Addr) (cap : Nat) (rs : List Rg) (wd ht tl : Int) (w : World) (h : Rgs w A rs) (hl : rs.length ≤ 1000000000) (hs : ∀ r ∈ rs, r.length ≤ 1000000000) :
    Calls Try.prog 10 #[.slice A rs.length cap, .int .i64 wd, .int .i64 ht, .int .i64 tl] w fun e w' => RetEd w (edgesR rs wd ht tl) e w' := by
  have K0 := Lib.hid (fun W (hW : Rgs W A rs) => c_iValidRings A cap rs W hW hl hs)
  have H := Lib.hid h
  clear h hs
  obtain ⟨S, hS⟩ : ∃ S, edgesR rs wd ht tl = S := ⟨_, rfl⟩
  rw [hS]
  obtain ⟨d1, hd1⟩ : ∃ d, rgsB rs = d := ⟨_, rfl⟩
  obtain ⟨d2, hd2⟩ : ∃ d, tlB wd ht tl = d := ⟨_, rfl⟩
  obtain ⟨bx, hbx⟩ : ∃ bx : Bx4, (if tlB wd ht tl then tileL wd ht tl else (0, 0, 0, 0)) = bx := ⟨_, rfl⟩
  have KB := Lib.hid (fun W => c_TileBox wd ht tl W)
  rw [hbx, hd2] at KB
  have HS : Hid (S = if (d1 && d2) = true then touchL rs bx else []) := Lib.hid (by
    rw [← hS, ← hbx]; unfold edgesR; rw [hd1, hd2]
    cases d1 <;> cases d2 <;> rfl)
  have Hbx : Hid (d2 = true → (0 ≤ bx.1 ∧ bx.1 < bx.2.2.1 ∧ bx.2.2.1 ≤ 12) ∧ (0 ≤ bx.2.1 ∧ bx.2.1 < bx.2.2.2 ∧ bx.2.2.2 ≤ 12)) := Lib.hid (fun h2 => by
    have hv : tlB wd ht tl = true := by rw [hd2, h2]
    obtain ⟨_, _, _, hw, hh, _, hx, hy⟩ := tile_bd hv
    rw [← hbx, if_pos hv]; omega)
  have H1 := Lib.hid hd1
  have E := Lib.hid (Below.refl w.heap.size w)
  have Hno : Hid (∀ b, (d1 && d2) = b → b = false → S = []) := Lib.hid (fun b h1 h2 => by rw [HS.out, h1, h2]; rfl)
  clear hS hd1 hd2 hbx
  obtain ⟨l, t, rt, bt⟩ := bx
  go_enter Try.func10, Try.ntmps10
  go_wp2_with fail
  refine (KB.out _).mono ?_
  rintro e w1 ⟨rfl, hb⟩
  replace E := Lib.hid (Ext.trans E.out hb)
  replace H := Lib.hid (H.out.ext rgR_stab hb)
  clear hb
  go_wp2_with fail
  first | refine gen_calls ?_ | refine gen_code ?_ | refine gen_list ?_
  intro w2 hW
  obtain ⟨hb, hB⟩ := new1 hW
  clear hW
  replace E := Lib.hid (Ext.trans E.out hb)
  replace H := Lib.hid (H.out.ext rgR_stab hb)
  clear hb
  have B := Lib.hid hB
  have lB := B.out.lt
  clear hB
  go_wp2_with fail
  refine (K0.out _ H.out).mono ?_
  rw [H1.out]
  rintro e w3 ⟨rfl, hb⟩
  replace E := Lib.hid (Ext.trans E.out hb)
  replace H := Lib.hid (H.out.ext rgR_stab hb)
  replace B := Lib.hid (B.out.ext hb)
  have lB := B.out.lt
  clear hb
  cases d1
  · have Hf := Lib.hid (Hno.out _ rfl (by simp))
    go_wp2
    go_ret
    exact RetEd.none Hf.out E.out
  · cases d2
    · have Hf := Lib.hid (Hno.out _ rfl (by simp))
      go_wp2
      go_ret
      exact RetEd.none Hf.out E.out
    · obtain ⟨hx, hy⟩ := Hbx.out rfl
      try dsimp only at hx hy
      obtain ⟨x1, x2, x3⟩ := hx
      obtain ⟨y1, y2, y3⟩ := hy
      have hr := rgsB_iff.1 H1.out
      have hr8 : rs.length ≤ 8 := hr.2.1
      have hcr : corners rs ≤ 200 := hr.2.2
      clear hr
      go_wp2_with fail
      refine (c_edges A cap rs _ H.out (by omega) (by omega)).mono ?_
      rintro e w4 ⟨A4, cap4, rfl, hed, hb⟩
      replace E := Lib.hid (Ext.trans E.out hb)
      replace H := Lib.hid (H.out.ext rgR_stab hb)
      replace B := Lib.hid (B.out.ext hb)
      have lB := B.out.lt
      clear hb
      have hz40 : w.heap.size ≤ w4.heap.size := E.out.size
      have hel := edgesS_len rs
      have Hpt := Lib.hid (fun e (he : e ∈ edgesS rs) => edgesS_pts H1.out he)
      have Hf : Hid ((edgesS rs).filter (fun e => tchB (l, t, rt, bt) e.1 e.2) = S) := Lib.hid (by rw [HS.out]; rfl)
      have Ed4 := Lib.hid hed
      have hel' : (edgesS rs).length ≤ 200 := by omega
      clear hed hel HS Hno
      generalize edgesS rs = es at *
      have X := Lib.hid (Below.refl w4.heap.size w4)
      have lB4 : w1.heap.size < w4.heap.size := lB
      go_wp2_with fail
      go_loopw [11, 13, 14, 32] (fun o _ _ i wr => ∃ (k : Nat) (A1 : Option Addr) (cap1 : Nat) (fs : List Ed), k ≤ es.length ∧ i = .int .i64 k ∧ o = .slice A1 fs.length cap1 ∧ fs = (es.take k).filter (fun e => tchB (l, t, rt, bt) e.1 e.2) ∧ Has wr w4.heap.size 66 4 (.slice A1 fs.length cap1) fs.length (fs.flatMap edC) ∧ Row wr w1.heap.size 56 [.int .i64 l, .int .i64 t, .int .i64 rt, .int .i64 bt] ∧ Below w4.heap.size w4 wr) (fun _ _ _ i _ => es.length - (intOf i).toNat)
      case atStart => exact ⟨0, none, 0, [], Nat.zero_le _, rfl, rfl, rfl, own_nil _ _ _ _, B.out, X.out⟩
      case round =>
        obtain ⟨k, A2, cap2, fs, hk, rfl, rfl, hfs, ho, hbr, hbw⟩ := hrel
        clear X B
        have O := Lib.hid ho
        have B := Lib.hid hbr
        have X := Lib.hid hbw
        have hzr : w4.heap.size ≤ wr.heap.size := hbw.size
        have hfl : fs.length ≤ 200 := by
          rw [hfs]
          have h1 := List.length_filter_le (fun e : Ed => tchB (l, t, rt, bt) e.1 e.2) (es.take k)
          rw [List.length_take] at h1
          omega
        have Hfs := Lib.hid hfs
        clear ho hbr hbw hfs
        by_cases hlt : k < es.length
        · obtain ⟨b, off, hA, _, hc⟩ := (Ed4.out.ext edR_stab X.out).eds (by omega)
          obtain ⟨c0, c1, c2, c3⟩ := hc k hlt
          obtain ⟨hp1, hp2⟩ := Hpt.out es[k] (List.getElem_mem hlt)
          have Hst : Hid ((es.take (k + 1)).filter (fun e => tchB (l, t, rt, bt) e.1 e.2) = fs ++ (if tchB (l, t, rt, bt) es[k].1 es[k].2 then [es[k]] else [])) := Lib.hid (by
            rw [List.take_succ_eq_append_getElem hlt, List.filter_append, ← Hfs.out]
            simp only [List.filter_cons, List.filter_nil])
          have Hb2 := Lib.hid (box2 es[k].1 es[k].2)
          clear hc
          generalize es[k] = e at *
          obtain ⟨⟨ax, ay⟩, ex, ez⟩ := e
          dsimp only at c0 c1 c2 c3 Hst Hb2
          unfold Crd2 at hp1 hp2
          dsimp only at hp1 hp2
          obtain ⟨⟨q1, q2⟩, q3, q4⟩ := hp1
          obtain ⟨⟨q5, q6⟩, q7, q8⟩ := hp2
          subst hA
          have C0 := Lib.hid c0
          have C1 := Lib.hid c1
          have C2 := Lib.hid c2
          have C3 := Lib.hid c3
          clear c0 c1 c2 c3
          have hkI : (k : Int) < (es.length : Int) := by omega
          have hkd : decide ((k : Int) < (es.length : Int)) = true := decide_eq_true hkI
          have cC0 := C0.out
          have cC1 := C1.out
          have cC2 := C2.out
          have cC3 := C3.out
          go_wp2_with fail
          clear cC0 cC1 cC2 cC3
          first | refine gen_calls ?_ | refine gen_code ?_ | refine gen_list ?_
          intro w5 hW
          obtain ⟨hb, hP, hY⟩ := new2 hW
          clear hW
          replace X := Lib.hid (Ext.trans X.out hb)
          replace O := Lib.hid (own_ext O.out hb)
          replace B := Lib.hid (B.out.ext hb)
          have lB := B.out.lt
          replace C0 := Lib.hid (Cls.cell hb C0.out)
          replace C1 := Lib.hid (Cls.cell hb C1.out)
          replace C2 := Lib.hid (Cls.cell hb C2.out)
          replace C3 := Lib.hid (Cls.cell hb C3.out)
          clear hb
          have P := Lib.hid hP
          have lP := P.out.lt
          clear hP
          have Y := Lib.hid hY
          have lY := Y.out.lt
          clear hY
          have cC0 := C0.out
          have cC1 := C1.out
          have cC2 := C2.out
          have cC3 := C3.out
          have PY : Hid (Pts w5 (some ⟨wr.heap.size + 1, 0, none⟩) [(ax, ay), (ex, ez)]) := Lib.hid (Row.in_ (rest := []) (enc := ptC) ptC_len (by simpa [ptC] using Y.out) (fun _ _ => rfl))
          go_wp2_with fail
          clear cC0 cC1 cC2 cC3
          refine (c_boxOf _ 2 [(ax, ay), (ex, ez)] _ PY.out (by simp) (by simp)).mono ?_
          rw [Hb2.out]
          rintro e w6 ⟨rfl, hb⟩
          replace X := Lib.hid (Ext.trans X.out hb)
          replace O := Lib.hid (own_ext O.out hb)
          replace B := Lib.hid (B.out.ext hb)
          have lB := B.out.lt
          replace P := Lib.hid (P.out.ext hb)
          have lP := P.out.lt
          clear hb
          obtain ⟨X1, hX1⟩ : ∃ X, max ax ex = X := ⟨_, rfl⟩
          obtain ⟨N1, hN1⟩ : ∃ X, min ax ex = X := ⟨_, rfl⟩
          obtain ⟨X2, hX2⟩ : ∃ X, max ay ez = X := ⟨_, rfl⟩
          obtain ⟨N2, hN2⟩ : ∃ X, min ay ez = X := ⟨_, rfl⟩
          have HT : Hid (tchB (l, t, rt, bt) (ax, ay) (ex, ez) = (decide (ay ≠ ez) && (decide (16 * l ≤ X1) && (decide (N1 < 16 * rt) && (decide (16 * t < X2) && decide (N2 < 16 * bt)))))) := Lib.hid (by unfold tchB; rw [hX1, hN1, hX2, hN2])
          rw [hX1, hN1, hX2, hN2]
          clear hX1 hN1 hX2 hN2
          have hz6 : w4.heap.size ≤ w6.heap.size := X.out.size
          have p0 := P.out.cell_of (i := 0) rfl
          have p1 := P.out.cell_of (i := 1) rfl
          have p2 := P.out.cell_of (i := 2) rfl
          have p3 := P.out.cell_of (i := 3) rfl
          have b0 := B.out.cell_of (i := 0) rfl
          have b1 := B.out.cell_of (i := 1) rfl
          have b2 := B.out.cell_of (i := 2) rfl
          have b3 := B.out.cell_of (i := 3) rfl
          by_cases c0 : ay = ez
          · have Hno : Hid (tchB (l, t, rt, bt) (ax, ay) (ex, ez) = false) := Lib.hid (by rw [HT.out]; simp [c0])
            have c0b : (ay == ez) = true := by simp [c0]
            have c0n : (ay != ez) = false := by simp [c0]
            clear c0
            have Hn : Hid (fs = (es.take (k + 1)).filter (fun e => tchB (l, t, rt, bt) e.1 e.2)) := Lib.hid (by rw [Hst.out, Hno.out]; simp)
            clear Hno
            go_wp2
            go_roundw
            case rel => exact ⟨k + 1, A2, cap2, fs, by omega, by go_num, rfl, Hn.out, own_ext O.out (ext_alloc _ _), B.out.alloc _, Ext.trans X.out (ext_alloc _ _)⟩
            case measure => simp [intOf]; omega
          · have c0b : (ay == ez) = false := by simp [c0]
            have c0n : (ay != ez) = true := by simp [c0]
            by_cases c1 : 16 * l ≤ X1
            · by_cases c2 : N1 < 16 * rt
              · by_cases c3 : 16 * t < X2
                · by_cases c4 : N2 < 16 * bt
                  · have Hyes : Hid (tchB (l, t, rt, bt) (ax, ay) (ex, ez) = true) := Lib.hid (by rw [HT.out]; simp [c0, c1, c2, c3, c4])
                    have Hn : Hid (fs ++ [((ax, ay), (ex, ez))] = (es.take (k + 1)).filter (fun e => tchB (l, t, rt, bt) e.1 e.2)) := Lib.hid (by rw [Hst.out, Hyes.out]; rfl)
                    clear Hyes
                    go_wp2_with (at_builtin; refine stop_in ?_)
                    refine stop_out ?_
                    clear p0 p1 p2 p3 b0 b1 b2 b3
                    refine gen_list ?_
                    intro w7 hW
                    obtain ⟨hb, hZ, hY2⟩ := new2 hW
                    clear hW
                    replace X := Lib.hid (Ext.trans X.out hb)
                    replace O := Lib.hid (own_ext O.out hb)
                    replace B := Lib.hid (B.out.ext hb)
                    have lB := B.out.lt
                    replace P := Lib.hid (P.out.ext hb)
                    have lP := P.out.lt
                    clear hb
                    have Z := Lib.hid hZ
                    have lZ := Z.out.lt
                    clear hZ
                    have Y2 := Lib.hid hY2
                    have lY2 := Y2.out.lt
                    clear hY2
                    have p0 := P.out.cell_of (i := 0) rfl
                    have p1 := P.out.cell_of (i := 1) rfl
                    have p2 := P.out.cell_of (i := 2) rfl
                    have p3 := P.out.cell_of (i := 3) rfl
                    have b0 := B.out.cell_of (i := 0) rfl
                    have b1 := B.out.cell_of (i := 1) rfl
                    have b2 := B.out.cell_of (i := 2) rfl
                    have b3 := B.out.cell_of (i := 3) rfl
                    have hz7 : w4.heap.size ≤ w7.heap.size := X.out.size
                    have S7 := Lib.hid ((Row.in_ (rest := []) (enc := edC) edC_len (by simpa [edC] using Y2.out) (fun _ _ => rfl) : Eds w7 _ [((ax, ay), (ex, ez))]).src edC_len (fun x us h => h) edC_one (by decide))
                    refine wpList_app (base := w4.heap.size) ei_ed rfl (.tmp 81) (.tmp 83) rfl rfl O.out rfl S7.out (by simp; omega) hz7 ?_
                    intro v8 w8 hown hg hat
                    refine stop_in ?_
                    refine stop_out ?_
                    obtain ⟨A3, cap3, hv8⟩ := own_form hown
                    have B8 := B.out.grownNe O.out (by decide) hg
                    have X8 := own_below X.out O.out hg hz7
                    have O8 : Has w8 w4.heap.size 66 4 (.slice A3 (fs ++ [((ax, ay), (ex, ez))]).length cap3) (fs ++ [((ax, ay), (ex, ez))]).length ((fs ++ [((ax, ay), (ex, ez))]).flatMap edC) := by
                      rw [hv8] at hown
                      rw [List.length_append, List.flatMap_append]
                      exact hown
                    have hv9 : v8 = .slice A3 (fs ++ [((ax, ay), (ex, ez))]).length cap3 := by rw [hv8, List.length_append]; rfl
                    clear hown hg hat hv8
                    clear p0 p1 p2 p3 b0 b1 b2 b3
                    clear O B X Z Y2 S7 lZ lY2 lB lP P
                    subst hv9
                    have O := Lib.hid O8
                    have B := Lib.hid B8
                    have X := Lib.hid X8
                    clear O8 B8 X8
                    go_wp2
                    go_roundw
                    case rel => exact ⟨k + 1, A3, cap3, _, by omega, by go_num, by rw [List.length_append]; rfl, Hn.out, O.out, B.out, X.out⟩
                    case measure => simp [intOf]; omega
                  · have Hno : Hid (tchB (l, t, rt, bt) (ax, ay) (ex, ez) = false) := Lib.hid (by rw [HT.out]; simp [c4])
                    have Hn : Hid (fs = (es.take (k + 1)).filter (fun e => tchB (l, t, rt, bt) e.1 e.2)) := Lib.hid (by rw [Hst.out, Hno.out]; simp)
                    clear Hno
                    go_wp2
                    go_roundw
                    case rel => exact ⟨k + 1, A2, cap2, fs, by omega, by go_num, rfl, Hn.out, own_ext O.out (ext_alloc _ _), B.out.alloc _, Ext.trans X.out (ext_alloc _ _)⟩
                    case measure => simp [intOf]; omega
                · have Hno : Hid (tchB (l, t, rt, bt) (ax, ay) (ex, ez) = false) := Lib.hid (by rw [HT.out]; simp [c3])
                  have Hn : Hid (fs = (es.take (k + 1)).filter (fun e => tchB (l, t, rt, bt) e.1 e.2)) := Lib.hid (by rw [Hst.out, Hno.out]; simp)
                  clear Hno
                  go_wp2
                  go_roundw
                  case rel => exact ⟨k + 1, A2, cap2, fs, by omega, by go_num, rfl, Hn.out, own_ext O.out (ext_alloc _ _), B.out.alloc _, Ext.trans X.out (ext_alloc _ _)⟩
                  case measure => simp [intOf]; omega
              · have Hno : Hid (tchB (l, t, rt, bt) (ax, ay) (ex, ez) = false) := Lib.hid (by rw [HT.out]; simp [c2])
                have Hn : Hid (fs = (es.take (k + 1)).filter (fun e => tchB (l, t, rt, bt) e.1 e.2)) := Lib.hid (by rw [Hst.out, Hno.out]; simp)
                clear Hno
                go_wp2
                go_roundw
                case rel => exact ⟨k + 1, A2, cap2, fs, by omega, by go_num, rfl, Hn.out, own_ext O.out (ext_alloc _ _), B.out.alloc _, Ext.trans X.out (ext_alloc _ _)⟩
                case measure => simp [intOf]; omega
            · have Hno : Hid (tchB (l, t, rt, bt) (ax, ay) (ex, ez) = false) := Lib.hid (by rw [HT.out]; simp [c1])
              have Hn : Hid (fs = (es.take (k + 1)).filter (fun e => tchB (l, t, rt, bt) e.1 e.2)) := Lib.hid (by rw [Hst.out, Hno.out]; simp)
              clear Hno
              go_wp2
              go_roundw
              case rel => exact ⟨k + 1, A2, cap2, fs, by omega, by go_num, rfl, Hn.out, own_ext O.out (ext_alloc _ _), B.out.alloc _, Ext.trans X.out (ext_alloc _ _)⟩
              case measure => simp [intOf]; omega
        · have hk' : k = es.length := by omega
          have Hz : Hid (fs = S) := Lib.hid (by rw [Hfs.out, hk', List.take_length, Hf.out])
          have hkd : decide ((k : Int) < (es.length : Int)) = false := decide_eq_false (by omega)
          clear hk'
          replace E := Lib.hid (Ext.trans E.out X.out)
          go_wp2_with fail
          refine (c_ClipE A2 fs.length cap2 _ O.out.slok).mono ?_
          rintro e w' ⟨rfl, rfl⟩
          go_wp2
          go_ret
          rw [← Hz.out]
          exact ⟨A2, fs.length, rfl, O.out.clip.rebase (by omega), E.out⟩
end Go.Proofs.Ytefbebikbdigfaa
