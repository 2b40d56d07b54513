/-
  The masks of tiles: both walks.
-/
import Derived.Test.YtefbebikbdigfaaTileM
namespace Go.Proofs.Ytefbebikbdigfaa
open Go Go.RowKit Reg
attribute [local go_sem] calmAt calmUpon
theorem nd_step {w W : World} {B e sz n : Nat} {v1 v2 ve : Value} {xs : List Value} (h1 : Has w B e sz v1 n xs) (hnd : v1.ownBlock = none ∨ v1.ownBlock ≠ v2.ownBlock) (hat : ve.ownBlock = v2.ownBlock ∨ ve.ownBlock = some W.heap.size) (hW : w.heap.size ≤ W.heap.size) : v1.ownBlock = none ∨ v1.ownBlock ≠ ve.ownBlock := by
  rcases hat with h | h
  · rw [h]; exact hnd
  · rw [h]
    cases hq : v1.ownBlock with
    | none => exact .inl rfl
    | some g => exact .inr fun hh => by injection hh with hh; have := (h1.lt g hq).2; omega
theorem nd_new {v1 : Value} {n : Nat} (h : ∀ g, v1.ownBlock = some g → g < n) : v1.ownBlock = none ∨ v1.ownBlock ≠ (Value.slice (some ⟨n, 0, none⟩) 0 0).ownBlock := by
  cases hc : v1.ownBlock with
  | none => exact .inl rfl
  | some g =>
    refine .inr fun hh => ?_
    have h1 := h g hc
    have h2 : g = n := by simpa [Value.ownBlock] using hh
    omega
theorem nd_swap {a b : Option Nat} (h : a = none ∨ a ≠ b) : b = none ∨ b ≠ a := by
  cases b with
  | none => exact .inl rfl
  | some y =>
    right
    rcases h with h | h
    · rw [h]; intro hh; cases hh
    · exact fun hh => h hh.symm
set_option maxRecDepth 100000 in
set_option maxHeartbeats 4000000 in
theorem c_iTileMask (A : Option Addr) (cap : Nat) (rs : List Rg) (rule wd ht tl : Int) (w : World) (h : Rgs w A rs) (hl : rs.length ≤ 1000000000) (hs : ∀ r ∈ rs, r.length ≤ 1000000000) :
    Calls Try.prog 17 #[.slice A rs.length cap, .int .i64 rule, .int .i64 wd, .int .i64 ht, .int .i64 tl] w fun e w' => RetIs w (tmaskR rs rule wd ht tl) e w' := by
  have K0 := Lib.hid (fun W (hW : Rgs W A rs) => c_iValidRings A cap rs W hW hl hs)
  have H := Lib.hid h
  clear h hs
  obtain ⟨S, hS⟩ : ∃ S, tmaskR rs rule wd ht tl = S := ⟨_, rfl⟩
  rw [hS]
  obtain ⟨d1, hd1⟩ : ∃ d, rgsB rs = d := ⟨_, rfl⟩
  obtain ⟨d2, hd2⟩ : ∃ d, tlB wd ht tl = d := ⟨_, rfl⟩
  obtain ⟨d3, hd3⟩ : ∃ d, inB rule 0 1 = d := ⟨_, rfl⟩
  obtain ⟨bx, hbx⟩ : ∃ bx : Bx4, (if tlB wd ht tl then tileL wd ht tl else (0, 0, 0, 0)) = bx := ⟨_, rfl⟩
  have KB := Lib.hid (fun W => c_TileBox wd ht tl W)
  rw [hbx, hd2] at KB
  have HS : Hid (S = if (d1 && d3 && d2) = true then cellsM (tileF rs rule bx) (bx.2.2.1 - bx.1).toNat (bx.2.2.2 - bx.2.1).toNat 0 else []) := Lib.hid (by
    rw [← hS, ← hbx]; unfold tmaskR; rw [hd1, hd2, hd3]
    cases d1 <;> cases d2 <;> cases d3 <;> rfl)
  have Hbx : Hid (d2 = true → (0 ≤ bx.1 ∧ bx.1 < bx.2.2.1 ∧ bx.2.2.1 ≤ 12) ∧ (0 ≤ bx.2.1 ∧ bx.2.1 < bx.2.2.2 ∧ bx.2.2.2 ≤ 12)) := Lib.hid (fun h2 => by
    have hv : tlB wd ht tl = true := by rw [hd2, h2]
    obtain ⟨_, _, _, hw, hh, _, hx, hy⟩ := tile_bd hv
    rw [← hbx, if_pos hv]; omega)
  have H1 := Lib.hid hd1
  have H3 := Lib.hid hd3
  have E := Lib.hid (Below.refl w.heap.size w)
  have Hno : Hid (∀ b, (d1 && d3 && d2) = b → b = false → S = []) := Lib.hid (fun b h1 h2 => by rw [HS.out, h1, h2]; rfl)
  clear hS hd1 hd2 hd3 hbx
  obtain ⟨l, t, rt, bt⟩ := bx
  go_enter Try.func17, Try.ntmps17
  go_wp2_with fail
  refine (KB.out _).mono ?_
  rintro e w1 ⟨rfl, hb⟩
  replace E := Lib.hid (Ext.trans E.out hb)
  replace H := Lib.hid (H.out.ext rgR_stab hb)
  clear hb
  go_wp2_with fail
  first | refine gen_calls ?_ | refine gen_code ?_ | refine gen_list ?_
  intro w2 hW
  obtain ⟨hb, hB⟩ := new1 hW
  clear hW
  replace E := Lib.hid (Ext.trans E.out hb)
  replace H := Lib.hid (H.out.ext rgR_stab hb)
  clear hb
  have B := Lib.hid hB
  have lB := B.out.lt
  clear hB
  go_wp2_with fail
  refine (K0.out _ H.out).mono ?_
  rw [H1.out]
  rintro e w3 ⟨rfl, hb⟩
  replace E := Lib.hid (Ext.trans E.out hb)
  replace H := Lib.hid (H.out.ext rgR_stab hb)
  replace B := Lib.hid (B.out.ext hb)
  have lB := B.out.lt
  clear hb
  cases d1
  · have Hf := Lib.hid (Hno.out _ rfl (by simp))
    go_wp2
    go_ret
    exact RetIs.none Hf.out E.out
  · cases d2
    · have Hf := Lib.hid (Hno.out _ rfl (by simp))
      go_wp2
      go_ret
      exact RetIs.none Hf.out E.out
    · go_wp2_with fail
      refine (c_isRule rule _).mono ?_
      rw [H3.out]
      rintro e w' ⟨rfl, rfl⟩
      cases d3
      · have Hf := Lib.hid (Hno.out _ rfl (by simp))
        go_wp2
        go_ret
        exact RetIs.none Hf.out E.out
      · obtain ⟨hx, hy⟩ := Hbx.out (by first | rfl | trivial)
        try dsimp only at hx hy
        obtain ⟨wn, hwn⟩ : ∃ wn : Nat, (rt - l).toNat = wn := ⟨_, rfl⟩
        obtain ⟨hn, hhn⟩ : ∃ hn : Nat, (bt - t).toNat = hn := ⟨_, rfl⟩
        have Hf : Hid (cellsM (tileF rs rule (l, t, rt, bt)) wn hn 0 = S) := Lib.hid (by rw [HS.out, ← hwn, ← hhn]; rfl)
        have hz3 := E.out.size
        have KM := Lib.hid (fun W (hW : Rgs W A rs) => c_maskedB A cap rs rule l t rt bt wn hn W hW H1.out (by omega) (by omega) (by omega) (by omega) (by omega) (by omega) (by omega) (by omega))
        rw [Hf.out] at KM
        clear hwn hhn HS Hno
        have b0 := B.out.cell_of (i := 0) rfl
        have b1 := B.out.cell_of (i := 1) rfl
        have b2 := B.out.cell_of (i := 2) rfl
        have b3 := B.out.cell_of (i := 3) rfl
        go_wp2_with fail
        refine (KM.out _ H.out).mono ?_
        rintro e w4 ⟨A', cap', rfl, ho, hb⟩
        have O := Lib.hid (ho.rebase hz3)
        replace E := Lib.hid (Ext.trans E.out hb)
        clear ho hb
        go_wp2
        go_ret
        exact ⟨A', cap', rfl, O.out, E.out⟩
def backL (rs : List Rg) (l y : Int) (j : Nat) : List Int := (List.range j).map fun i : Nat => windL rs (16 * l - 1) (16 * y + 4 * (i : Int) + 2)
theorem backL_succ (rs : List Rg) (l y : Int) (j : Nat) : backL rs l y j ++ [windL rs (16 * l - 1) (16 * y + 4 * (j : Int) + 2)] = backL rs l y (j + 1) := by
  unfold backL; rw [List.range_succ, List.map_append]; rfl
theorem backL_len (rs : List Rg) (l y : Int) (j : Nat) : (backL rs l y j).length = j := by simp [backL]
set_option maxRecDepth 100000 in
set_option maxHeartbeats 8000000 in
theorem c_sTileMask (A : Option Addr) (cap : Nat) (rs : List Rg) (rule wd ht tl : Int) (w : World) (h : Rgs w A rs) (hl : rs.length ≤ 1000000000) (hs : ∀ r ∈ rs, r.length ≤ 1000000000) :
    Calls Try.prog 16 #[.slice A rs.length cap, .int .i64 rule, .int .i64 wd, .int .i64 ht, .int .i64 tl] w fun e w' => RetIs w (tmaskR rs rule wd ht tl) e w' := by
  have K0 := Lib.hid (fun W (hW : Rgs W A rs) => c_sValidRings A cap rs W hW hl hs)
  have H := Lib.hid h
  have HW0 := Lib.hid h
  clear h hs
  obtain ⟨S, hS⟩ : ∃ S, tmaskR rs rule wd ht tl = S := ⟨_, rfl⟩
  rw [hS]
  obtain ⟨d1, hd1⟩ : ∃ d, rgsB rs = d := ⟨_, rfl⟩
  obtain ⟨d0, hd0⟩ : ∃ d, inB rule 0 1 = d := ⟨_, rfl⟩
  obtain ⟨d2, hd2⟩ : ∃ d, (inB wd 1 12 && inB ht 1 12) = d := ⟨_, rfl⟩
  obtain ⟨d3, hd3⟩ : ∃ d, inB tl 0 (tilesL wd ht - 1) = d := ⟨_, rfl⟩
  have HS : Hid (S = if (d1 && d0 && (d2 && d3)) = true then cellsM (tileF rs rule (tileL wd ht tl)) ((tileL wd ht tl).2.2.1 - (tileL wd ht tl).1).toNat ((tileL wd ht tl).2.2.2 - (tileL wd ht tl).2.1).toNat 0 else []) := Lib.hid (by rw [← hS]; unfold tmaskR tlB; rw [hd0, hd1, hd2, hd3])
  have H0 := Lib.hid hd0
  have H1 := Lib.hid hd1
  have H2 := Lib.hid hd2
  have H3 := Lib.hid hd3
  have E := Lib.hid (Below.refl w.heap.size w)
  have Hno : Hid (∀ b, (d1 && d0 && (d2 && d3)) = b → b = false → S = []) := Lib.hid (fun b h1 h2 => by rw [HS.out, h1, h2]; rfl)
  clear hS hd0 hd1 hd2 hd3
  go_enter Try.func16, Try.ntmps16
  go_wp2_with fail
  first | refine gen_calls ?_ | refine gen_code ?_ | refine gen_list ?_
  intro w0 hW
  obtain ⟨hb, hR⟩ := new1 hW
  clear hW
  replace E := Lib.hid (Ext.trans E.out hb)
  replace H := Lib.hid (H.out.ext rgR_stab hb)
  clear hb
  have R := Lib.hid hR
  have lR := R.out.lt
  clear hR
  have O := Lib.hid (own_of_row (n := 0) (B := w.heap.size) (sz := 1) R.out (Nat.le_refl _) rfl (by decide))
  clear R lR
  go_wp2_with fail
  refine (K0.out _ H.out).mono ?_
  rw [H1.out]
  rintro e w1 ⟨rfl, hb⟩
  replace E := Lib.hid (Ext.trans E.out hb)
  replace H := Lib.hid (H.out.ext rgR_stab hb)
  replace O := Lib.hid (own_ext O.out hb)
  clear hb
  cases d1
  · have Hf := Lib.hid (Hno.out _ rfl (by simp))
    go_wp2
    go_ret
    exact RetIs.none Hf.out E.out
  · go_wp2_with fail
    refine (c_inRange rule 0 1 _).mono ?_
    rw [H0.out]
    rintro e w' ⟨rfl, rfl⟩
    cases d0
    · have Hf := Lib.hid (Hno.out _ rfl (by simp))
      go_wp2
      go_ret
      exact RetIs.none Hf.out E.out
    · go_wp2_with fail
      refine (c_validSize wd ht _).mono ?_
      rw [H2.out]
      rintro e w' ⟨rfl, rfl⟩
      cases d2
      · have Hf := Lib.hid (Hno.out _ rfl (by simp))
        go_wp2
        go_ret
        exact RetIs.none Hf.out E.out
      · have h2 := H2.out
        simp only [Bool.and_eq_true] at h2
        have h4 := inB_iff.1 h2.1
        have h5 := inB_iff.1 h2.2
        clear h2
        have htb : 1 ≤ tilesL wd ht ∧ tilesL wd ht ≤ 9 := by
          have hm : (1 ≤ acrL wd ∧ acrL wd ≤ 3) ∧ (1 ≤ acrL ht ∧ acrL ht ≤ 3) := by unfold acrL; omega
          unfold tilesL
          exact ⟨by have := Int.mul_le_mul hm.1.1 hm.2.1 (by omega) (by omega); omega, by have := Int.mul_le_mul hm.1.2 hm.2.2 (by omega) (by omega); omega⟩
        go_wp2_with fail
        refine (c_tiles wd ht _ h4 h5).mono ?_
        rintro e w' ⟨rfl, rfl⟩
        go_wp2_with fail
        refine (c_inRange tl 0 (tilesL wd ht - 1) _).mono ?_
        rw [H3.out]
        rintro e w' ⟨rfl, rfl⟩
        cases d3
        · have Hf := Lib.hid (Hno.out _ rfl (by simp))
          go_wp2
          go_ret
          exact RetIs.none Hf.out E.out
        · have Htl : Hid (tlB wd ht tl = true) := Lib.hid (by unfold tlB; rw [H2.out, H3.out]; rfl)
          obtain ⟨_, _, _, _, _, _, hx, hy⟩ := tile_bd Htl.out
          have KB := Lib.hid (fun W => c_tileBox wd ht tl W Htl.out)
          have HS2 : Hid (S = cellsM (tileF rs rule (tileL wd ht tl)) ((tileL wd ht tl).2.2.1 - (tileL wd ht tl).1).toNat ((tileL wd ht tl).2.2.2 - (tileL wd ht tl).2.1).toNat 0) := Lib.hid (by rw [HS.out]; simp)
          generalize tileL wd ht tl = bx at *
          obtain ⟨l, t, rt, bt⟩ := bx
          dsimp only at hx hy HS2
          obtain ⟨wn, hwn⟩ : ∃ wn : Nat, (rt - l).toNat = wn := ⟨_, rfl⟩
          obtain ⟨hn, hhn⟩ : ∃ hn : Nat, (bt - t).toNat = hn := ⟨_, rfl⟩
          have Hf : Hid (cellsM (tileF rs rule (l, t, rt, bt)) wn hn 0 = S) := Lib.hid (by rw [HS2.out, ← hwn, ← hhn])
          have hw12 : wn ≤ 12 := by omega
          have hh12 : hn ≤ 12 := by omega
          have Hrt : Hid (rt = l + wn) := Lib.hid (by omega)
          have Hbt : Hid (bt = t + hn) := Lib.hid (by omega)
          obtain ⟨x1, x2, x3, x4⟩ := hx
          obtain ⟨y1, y2, y3, y4⟩ := hy
          clear hwn hhn HS HS2 Hno
          go_wp2_with fail
          refine (KB.out _).mono ?_
          rintro e w2 ⟨rfl, hb⟩
          replace E := Lib.hid (Ext.trans E.out hb)
          replace H := Lib.hid (H.out.ext rgR_stab hb)
          replace O := Lib.hid (own_ext O.out hb)
          clear hb
          go_wp2_with fail
          first | refine gen_calls ?_ | refine gen_code ?_ | refine gen_list ?_
          intro w3 hW
          obtain ⟨hb, hB⟩ := new1 hW
          clear hW
          replace E := Lib.hid (Ext.trans E.out hb)
          replace H := Lib.hid (H.out.ext rgR_stab hb)
          replace O := Lib.hid (own_ext O.out hb)
          clear hb
          have B := Lib.hid hB
          have lB := B.out.lt
          clear hB
          have b0 := B.out.cell_of (i := 0) rfl
          have b1 := B.out.cell_of (i := 1) rfl
          have b2 := B.out.cell_of (i := 2) rfl
          have b3 := B.out.cell_of (i := 3) rfl
          have hz3 : w.heap.size ≤ w3.heap.size := E.out.size
          go_wp2_with fail
          clear b0 b1 b2 b3
          refine (c_touched A cap rs l t rt bt _ H.out H1.out (by omega) (by omega) (by omega) (by omega)).mono ?_
          rintro e w4 ⟨A4, cap4, rfl, hed, hb⟩
          replace E := Lib.hid (Ext.trans E.out hb)
          replace H := Lib.hid (H.out.ext rgR_stab hb)
          replace O := Lib.hid (own_ext O.out hb)
          replace B := Lib.hid (B.out.ext hb)
          have lB := B.out.lt
          clear hb
          have b0 := B.out.cell_of (i := 0) rfl
          have b1 := B.out.cell_of (i := 1) rfl
          have b2 := B.out.cell_of (i := 2) rfl
          have b3 := B.out.cell_of (i := 3) rfl
          have D := Lib.hid (hed.rebase hz3)
          have hel : (touchL rs (l, t, rt, bt)).length ≤ 200 := Nat.le_trans (touchL_len _ _) (rgsB_iff.1 H1.out).2.2
          have KT := Lib.hid (fun (A2 : Option Addr) (cap2 : Nat) (c r : Int) (bs : List Int) W (h : Eds W A4 (touchL rs (l, t, rt, bt))) hb hbl hbs hc hr => c_tileCover A4 A2 cap4 cap2 rs l t rt bt rule c r bs W h H1.out hb hbl hbs (by omega) hc hr (by omega) (by omega) (by omega))
          clear hed
          generalize touchL rs (l, t, rt, bt) = es at *
          go_wp2_with fail
          clear b0 b1 b2 b3
          go_loopw [11, 14, 15, 16, 17] (fun o r _ _ _ wr => ∃ (i : Nat) (A1 : Option Addr) (cap1 : Nat) (xs : List Int), i ≤ hn ∧ r = .int .i64 (t + (i : Int)) ∧ o = .slice A1 xs.length cap1 ∧ xs = cellsM (tileF rs rule (l, t, rt, bt)) wn i 0 ∧ Has wr w.heap.size 3 1 (.slice A1 xs.length cap1) xs.length (xs.flatMap intC) ∧ Has wr w.heap.size 66 4 (.slice A4 es.length cap4) es.length (es.flatMap edC) ∧ Row wr w2.heap.size 56 [.int .i64 l, .int .i64 t, .int .i64 rt, .int .i64 bt] ∧ Below w.heap.size w wr) (fun _ r _ _ _ _ => hn - (intOf r - t).toNat)
          case atStart => exact ⟨0, _, 0, [], Nat.zero_le _, by simp, rfl, rfl, O.out, D.out, B.out, E.out⟩
          case round =>
            obtain ⟨i, A1, cap1, xs, hi, rfl, rfl, hxs, ho, hd, hbr, hbw⟩ := hrel
            clear O D B E
            have O := Lib.hid ho
            have D := Lib.hid hd
            have B := Lib.hid hbr
            have E := Lib.hid hbw
            have hzr : w.heap.size ≤ wr.heap.size := hbw.size
            have Hxs := Lib.hid hxs
            clear ho hd hbr hbw hxs
            by_cases hlt : i < hn
            · have hltI : decide (t + (i : Int) < bt) = true := decide_eq_true (by have := Hbt.out; omega)
              have hti : t + (i : Int) < bt := by have := Hbt.out; omega
              have b0 := B.out.cell_of (i := 0) rfl
              have b1 := B.out.cell_of (i := 1) rfl
              have b2 := B.out.cell_of (i := 2) rfl
              have b3 := B.out.cell_of (i := 3) rfl
              have OW := Lib.hid (fun g hg => O.out.lt g hg)
              go_wp2_with fail
              clear b0 b1 b2 b3
              first | refine gen_calls ?_ | refine gen_code ?_ | refine gen_list ?_
              intro w5 hW
              obtain ⟨hb, hR⟩ := new1 hW
              clear hW
              replace E := Lib.hid (Ext.trans E.out hb)
              replace O := Lib.hid (own_ext O.out hb)
              replace D := Lib.hid (own_ext D.out hb)
              replace B := Lib.hid (B.out.ext hb)
              have lB := B.out.lt
              clear hb
              have R := Lib.hid hR
              have lR := R.out.lt
              clear hR
              have b0 := B.out.cell_of (i := 0) rfl
              have b1 := B.out.cell_of (i := 1) rfl
              have b2 := B.out.cell_of (i := 2) rfl
              have b3 := B.out.cell_of (i := 3) rfl
              have Bk := Lib.hid (own_of_row (n := 0) (B := w.heap.size) (sz := 1) R.out hzr rfl (by decide))
              have Nd : Hid ((Value.slice A1 xs.length cap1).ownBlock = none ∨ (Value.slice A1 xs.length cap1).ownBlock ≠ (Value.slice (some ⟨wr.heap.size, 0, none⟩) 0 0).ownBlock) := Lib.hid (nd_new fun g hg => (OW.out g hg).2)
              clear R lR
              go_wp2_with fail
              clear b0 b1 b2 b3
              go_loopw [15, 16] (fun v q wr => ∃ (j : Nat) (A2 : Option Addr) (cap2 : Nat) (bs : List Int), j ≤ 4 ∧ q = .int .i64 j ∧ v = .slice A2 bs.length cap2 ∧ bs = backL rs l (t + (i : Int)) j ∧ Has wr w.heap.size 3 1 (.slice A2 bs.length cap2) bs.length (bs.flatMap intC) ∧ ((Value.slice A1 xs.length cap1).ownBlock = none ∨ (Value.slice A1 xs.length cap1).ownBlock ≠ (Value.slice A2 bs.length cap2).ownBlock) ∧ Has wr w.heap.size 3 1 (.slice A1 xs.length cap1) xs.length (xs.flatMap intC) ∧ Has wr w.heap.size 66 4 (.slice A4 es.length cap4) es.length (es.flatMap edC) ∧ Row wr w2.heap.size 56 [.int .i64 l, .int .i64 t, .int .i64 rt, .int .i64 bt] ∧ Below w.heap.size w wr) (fun _ q _ => 4 - (intOf q).toNat)
              case atStart => exact ⟨0, _, 0, [], by omega, rfl, rfl, rfl, Bk.out, Nd.out, O.out, D.out, B.out, E.out⟩
              case round =>
                obtain ⟨j, A2, cap2, bs, hj, rfl, rfl, hbs, hbk, hnd, ho, hd, hbr, hbw⟩ := hrel
                clear O D B E Bk Nd
                have Bk := Lib.hid hbk
                have Nd := Lib.hid hnd
                have O := Lib.hid ho
                have D := Lib.hid hd
                have B := Lib.hid hbr
                have E := Lib.hid hbw
                have hzr : w.heap.size ≤ wr.heap.size := hbw.size
                have hbl : bs.length = j := by rw [hbs, backL_len]
                have hbl4 : bs.length ≤ 4 := by omega
                have Hbl := Lib.hid hbl
                have Hbs := Lib.hid hbs
                clear hbk hnd ho hd hbr hbw hbs hbl
                by_cases hjl : j < 4
                · have hjd : decide ((j : Int) < 4) = true := decide_eq_true (by omega)
                  have Hn : Hid (bs ++ [windL rs (16 * l - 1) (16 * (t + (i : Int)) + 4 * (j : Int) + 2)] = backL rs l (t + (i : Int)) (j + 1)) := Lib.hid (by rw [Hbs.out, backL_succ])
                  have KW := Lib.hid (fun W (hW : Rgs W A rs) => c_backdrop A cap rs l (16 * (t + (i : Int)) + 4 * (j : Int) + 2) W hW H1.out (by omega) (by omega))
                  generalize windL rs (16 * l - 1) (16 * (t + (i : Int)) + 4 * (j : Int) + 2) = v at *
                  have b0 := B.out.cell_of (i := 0) rfl
                  have b1 := B.out.cell_of (i := 1) rfl
                  have b2 := B.out.cell_of (i := 2) rfl
                  have b3 := B.out.cell_of (i := 3) rfl
                  go_wp2_with fail
                  clear b0 b1 b2 b3
                  refine (KW.out _ (HW0.out.ext rgR_stab E.out)).mono ?_
                  rintro e w6 ⟨rfl, hb⟩
                  replace E := Lib.hid (Ext.trans E.out hb)
                  replace O := Lib.hid (own_ext O.out hb)
                  replace D := Lib.hid (own_ext D.out hb)
                  replace B := Lib.hid (B.out.ext hb)
                  have lB := B.out.lt
                  replace Bk := Lib.hid (own_ext Bk.out hb)
                  clear hb
                  have b0 := B.out.cell_of (i := 0) rfl
                  have b1 := B.out.cell_of (i := 1) rfl
                  have b2 := B.out.cell_of (i := 2) rfl
                  have b3 := B.out.cell_of (i := 3) rfl
                  have hz6 : w.heap.size ≤ w6.heap.size := E.out.size
                  go_wp2_with (at_builtin; refine wpList_app (base := w.heap.size) ei_int rfl (.tmp 62) (.tmp 73) rfl rfl (own_ext Bk.out (ext_alloc _ _)) rfl (src_new _ _ [_] (m := 1) rfl (by intro u hu; simp only [List.mem_cons, List.not_mem_nil, or_false] at hu; subst hu; rfl)) (by omega) (by simp; omega) ?_; intro ve w7 hown hg hat; refine stop_in ?_)
                  refine stop_out ?_
                  obtain ⟨A3, cap3, hve⟩ := own_form hown
                  have O7 := (own_ext O.out (ext_alloc _ _)).kept hg Nd.out
                  have Nd7 := nd_step (W := w6.alloc (.cells [.int .i64 v].toArray 3)) O.out Nd.out hat (by simp)
                  clear b0 b1 b2 b3
                  replace E := Lib.hid (Below.grown (Ext.trans E.out (ext_alloc _ _)) hg (by simp; omega) (fun k hk => by have := (Bk.out.lt k hk).1; omega))
                  replace D := Lib.hid ((own_ext D.out (ext_alloc _ _)).grownNe (own_ext Bk.out (ext_alloc _ _)) (by decide) hg)
                  replace B := Lib.hid ((B.out.ext (ext_alloc _ _)).grownNe (own_ext Bk.out (ext_alloc _ _)) (by decide) hg)
                  have lB := B.out.lt
                  have heq : bs ++ [v] = (bs ++ [v]) := rfl
                  replace Bk : Hid (Has w7 w.heap.size 3 1 (.slice A3 ((bs ++ [v])).length cap3) ((bs ++ [v])).length (((bs ++ [v])).flatMap intC)) := Lib.hid (by
                    have q := hown
                    rw [hve] at q
                    rw [← heq, List.flatMap_append, List.length_append]
                    exact q)
                  have hvf : ve = .slice A3 ((bs ++ [v])).length cap3 := by rw [hve, ← heq, List.length_append]; rfl
                  clear hve
                  clear hown hg hat heq
                  subst hvf
                  have b0 := B.out.cell_of (i := 0) rfl
                  have b1 := B.out.cell_of (i := 1) rfl
                  have b2 := B.out.cell_of (i := 2) rfl
                  have b3 := B.out.cell_of (i := 3) rfl
                  go_wp2
                  go_roundw
                  case rel => exact ⟨j + 1, A3, cap3, _, by omega, by go_num, rfl, Hn.out, Bk.out, Nd7, O7, D.out, B.out, E.out⟩
                  case measure => simp [intOf]; omega
                · have hjd : decide ((j : Int) < 4) = false := decide_eq_false (by omega)
                  have hj4 : j = 4 := by omega
                  have Hb4 : Hid (bs.length = 4) := Lib.hid (by rw [Hbl.out, hj4])
                  have Hbv : Hid (∀ (q : Nat) (hq : q < bs.length), bs[q] = windL rs (16 * l - 1) (16 * (t + (i : Int)) + 4 * (q : Int) + 2)) := Lib.hid (fun q hq => by
                    have h1 : bs = backL rs l (t + (i : Int)) j := Hbs.out
                    subst h1
                    simp [backL])
                  clear hj4
                  have b0 := B.out.cell_of (i := 0) rfl
                  have b1 := B.out.cell_of (i := 1) rfl
                  have b2 := B.out.cell_of (i := 2) rfl
                  have b3 := B.out.cell_of (i := 3) rfl
                  go_wp2_with fail
                  clear b0 b1 b2 b3
                  go_loopw [11, 17] (fun v q wr => ∃ (k : Nat) (A3 : Option Addr) (cap3 : Nat) (ys : List Int), k ≤ wn ∧ q = .int .i64 (l + (k : Int)) ∧ v = .slice A3 ys.length cap3 ∧ ys = cellsM (tileF rs rule (l, t, rt, bt)) wn i k ∧ Has wr w.heap.size 3 1 (.slice A3 ys.length cap3) ys.length (ys.flatMap intC) ∧ ((Value.slice A2 bs.length cap2).ownBlock = none ∨ (Value.slice A2 bs.length cap2).ownBlock ≠ (Value.slice A3 ys.length cap3).ownBlock) ∧ Has wr w.heap.size 3 1 (.slice A2 bs.length cap2) bs.length (bs.flatMap intC) ∧ Has wr w.heap.size 66 4 (.slice A4 es.length cap4) es.length (es.flatMap edC) ∧ Row wr w2.heap.size 56 [.int .i64 l, .int .i64 t, .int .i64 rt, .int .i64 bt] ∧ Below w.heap.size w wr) (fun _ q _ => wn - (intOf q - l).toNat)
                  case atStart => exact ⟨0, A1, cap1, xs, Nat.zero_le _, by simp, rfl, Hxs.out, O.out, nd_swap Nd.out, Bk.out, D.out, B.out, E.out⟩
                  case round =>
                    obtain ⟨k, A3, cap3, ys, hk, rfl, rfl, hys, ho, hnd, hbk, hd, hbr, hbw⟩ := hrel
                    clear O D B E Bk Nd
                    have Bk := Lib.hid hbk
                    have Nd := Lib.hid hnd
                    have O := Lib.hid ho
                    have D := Lib.hid hd
                    have B := Lib.hid hbr
                    have E := Lib.hid hbw
                    have hzr : w.heap.size ≤ wr.heap.size := hbw.size
                    have hyl : ys.length ≤ 156 := by rw [hys]; exact cellsM_len _ hw12 (by omega) (by omega)
                    have Hys := Lib.hid hys
                    clear hbk hnd ho hd hbr hbw hys
                    by_cases hkl : k < wn
                    · have hkd : decide (l + (k : Int) < rt) = true := decide_eq_true (by have := Hrt.out; omega)
                      have hkt : l + (k : Int) < rt := by have := Hrt.out; omega
                      have Hn : Hid (ys ++ [tileF rs rule (l, t, rt, bt) i k] = cellsM (tileF rs rule (l, t, rt, bt)) wn i (k + 1)) := Lib.hid (by rw [Hys.out, cellsM_succ])
                      have KC : Hid (∀ W, Eds W A4 es → Ints W A2 bs → Calls Try.prog 48 #[.slice A4 es.length cap4, .slice A2 bs.length cap2, .int .i64 l, .int .i64 rule, .int .i64 (l + (k : Int)), .int .i64 (t + (i : Int))] W fun e w' => e = .returned (.int .i64 (tileF rs rule (l, t, rt, bt) i k)) ∧ Below W.heap.size W w') := Lib.hid (fun W h1 h2 => KT.out A2 cap2 (l + (k : Int)) (t + (i : Int)) bs W h1 h2 Hb4.out Hbv.out (by omega) (by omega))
                      generalize tileF rs rule (l, t, rt, bt) i k = v at *
                      have b0 := B.out.cell_of (i := 0) rfl
                      have b1 := B.out.cell_of (i := 1) rfl
                      have b2 := B.out.cell_of (i := 2) rfl
                      have b3 := B.out.cell_of (i := 3) rfl
                      go_wp2_with fail
                      clear b0 b1 b2 b3
                      refine (KC.out _ (own_in (R := edR) (enc := edC) edC_len (by decide) D.out (fun _ => rfl)) (own_in (R := intR) (enc := intC) (fun _ => rfl) (by decide) Bk.out (fun _ => rfl))).mono ?_
                      rintro e w6 ⟨rfl, hb⟩
                      replace E := Lib.hid (Ext.trans E.out hb)
                      replace O := Lib.hid (own_ext O.out hb)
                      replace D := Lib.hid (own_ext D.out hb)
                      replace B := Lib.hid (B.out.ext hb)
                      have lB := B.out.lt
                      replace Bk := Lib.hid (own_ext Bk.out hb)
                      clear hb
                      have b0 := B.out.cell_of (i := 0) rfl
                      have b1 := B.out.cell_of (i := 1) rfl
                      have b2 := B.out.cell_of (i := 2) rfl
                      have b3 := B.out.cell_of (i := 3) rfl
                      have hz6 : w.heap.size ≤ w6.heap.size := E.out.size
                      go_wp2_with (at_builtin; refine wpList_app (base := w.heap.size) ei_int rfl (.tmp 83) (.tmp 92) rfl rfl (own_ext O.out (ext_alloc _ _)) rfl (src_new _ _ [_] (m := 1) rfl (by intro u hu; simp only [List.mem_cons, List.not_mem_nil, or_false] at hu; subst hu; rfl)) (by omega) (by simp; omega) ?_; intro ve w7 hown hg hat; refine stop_in ?_)
                      refine stop_out ?_
                      obtain ⟨A5, cap5, hve⟩ := own_form hown
                      have Bk7 := (own_ext Bk.out (ext_alloc _ _)).kept hg Nd.out
                      have Nd7 := nd_step (W := w6.alloc (.cells [.int .i64 v].toArray 3)) Bk.out Nd.out hat (by simp)
                      clear b0 b1 b2 b3
                      replace E := Lib.hid (Below.grown (Ext.trans E.out (ext_alloc _ _)) hg (by simp; omega) (fun k hk => by have := (O.out.lt k hk).1; omega))
                      replace D := Lib.hid ((own_ext D.out (ext_alloc _ _)).grownNe (own_ext O.out (ext_alloc _ _)) (by decide) hg)
                      replace B := Lib.hid ((B.out.ext (ext_alloc _ _)).grownNe (own_ext O.out (ext_alloc _ _)) (by decide) hg)
                      have lB := B.out.lt
                      have heq : ys ++ [v] = (ys ++ [v]) := rfl
                      replace O : Hid (Has w7 w.heap.size 3 1 (.slice A5 ((ys ++ [v])).length cap5) ((ys ++ [v])).length (((ys ++ [v])).flatMap intC)) := Lib.hid (by
                        have q := hown
                        rw [hve] at q
                        rw [← heq, List.flatMap_append, List.length_append]
                        exact q)
                      have hvf : ve = .slice A5 ((ys ++ [v])).length cap5 := by rw [hve, ← heq, List.length_append]; rfl
                      clear hve
                      clear hown hg hat heq
                      subst hvf
                      have b0 := B.out.cell_of (i := 0) rfl
                      have b1 := B.out.cell_of (i := 1) rfl
                      have b2 := B.out.cell_of (i := 2) rfl
                      have b3 := B.out.cell_of (i := 3) rfl
                      go_wp2
                      go_roundw
                      case rel => exact ⟨k + 1, A5, cap5, _, by omega, by go_num, rfl, Hn.out, O.out, Nd7, Bk7, D.out, B.out, E.out⟩
                      case measure => simp [intOf]; omega
                    · have hkd : decide (l + (k : Int) < rt) = false := decide_eq_false (by have := Hrt.out; omega)
                      obtain rfl : k = wn := by omega
                      have Hr : Hid (ys = cellsM (tileF rs rule (l, t, rt, bt)) k (i + 1) 0) := Lib.hid (by rw [Hys.out, cellsM_row])
                      have b0 := B.out.cell_of (i := 0) rfl
                      have b1 := B.out.cell_of (i := 1) rfl
                      have b2 := B.out.cell_of (i := 2) rfl
                      have b3 := B.out.cell_of (i := 3) rfl
                      go_wp2
                      go_roundw
                      case rel => exact ⟨i + 1, A3, cap3, ys, by omega, by go_num, rfl, Hr.out, O.out, D.out, B.out, E.out⟩
                      case measure => simp [intOf]; omega
            · have hltI : decide (t + (i : Int) < bt) = false := decide_eq_false (by have := Hbt.out; omega)
              obtain rfl : i = hn := by omega
              have b0 := B.out.cell_of (i := 0) rfl
              have b1 := B.out.cell_of (i := 1) rfl
              have b2 := B.out.cell_of (i := 2) rfl
              have b3 := B.out.cell_of (i := 3) rfl
              have Hz : Hid (xs = S) := Lib.hid (by rw [Hxs.out, Hf.out])
              go_wp2
              go_ret
              rw [← Hz.out]
              exact ⟨A1, cap1, rfl, O.out, E.out⟩
end Go.Proofs.Ytefbebikbdigfaa
