/-
  The cover of the pixels of a tile: the walks.
-/
import Derived.Test.YtefbebikbdigfaaTouch
namespace Go.Proofs.Ytefbebikbdigfaa
open Go Go.RowKit Reg
attribute [local go_sem] calmAt calmUpon
set_option maxRecDepth 100000 in
set_option maxHeartbeats 4000000 in
theorem c_maskedB (A : Option Addr) (cap : Nat) (rs : List Rg) (rule l t rt bt : Int) (wn hn : Nat) (w : World) (h : Rgs w A rs) (hv : rgsB rs = true) (hw : wn ≤ 12) (hh : hn ≤ 12) (hl : 0 ≤ l ∧ l ≤ 12) (ht : 0 ≤ t ∧ t ≤ 12) (hrt : rt = l + wn) (hbt : bt = t + hn) (hrt2 : rt ≤ 12) (hbt2 : bt ≤ 12) :
    Calls Try.prog 50 #[.slice A rs.length cap, .int .i64 rule, bx4V (l, t, rt, bt)] w fun e w' => RetIs w (cellsM (tileF rs rule (l, t, rt, bt)) wn hn 0) e w' := by
  have H := Lib.hid h
  have Hv := Lib.hid hv
  have Hrt := Lib.hid hrt
  have Hbt := Lib.hid hbt
  clear hrt hbt
  have E := Lib.hid (Below.refl w.heap.size w)
  clear h hv
  go_enter Try.func50, Try.ntmps50
  go_wp2_with fail
  first | refine gen_calls ?_ | refine gen_code ?_ | refine gen_list ?_
  intro w1 hW
  obtain ⟨hb, hR⟩ := new1 hW
  clear hW
  replace E := Lib.hid (Ext.trans E.out hb)
  clear hb
  have R := Lib.hid hR
  have lR := R.out.lt
  clear hR
  have R' := R
  clear R
  have O := Lib.hid (own_nil w1 w.heap.size 3 1)
  have c0 := R'.out.cell_of (i := 0) rfl
  have c1 := R'.out.cell_of (i := 1) rfl
  have c2 := R'.out.cell_of (i := 2) rfl
  have c3 := R'.out.cell_of (i := 3) rfl
  go_wp2_with fail
  go_loopw [7, 8, 9] (fun o r _ wr => ∃ (i : Nat) (A1 : Option Addr) (cap1 : Nat) (xs : List Int), i ≤ hn ∧ r = .int .i64 (t + (i : Int)) ∧ o = .slice A1 xs.length cap1 ∧ xs = cellsM (tileF rs rule (l, t, rt, bt)) wn i 0 ∧ Has wr w.heap.size 3 1 (.slice A1 xs.length cap1) xs.length (xs.flatMap intC) ∧ Row wr w.heap.size 56 [.int .i64 l, .int .i64 t, .int .i64 rt, .int .i64 bt] ∧ Below w.heap.size w wr) (fun _ r _ _ => hn - (intOf r - t).toNat)
  case atStart => exact ⟨0, _, 0, [], Nat.zero_le _, by simp, rfl, rfl, O.out, R'.out, E.out⟩
  case round =>
    obtain ⟨i, A1, cap1, xs, hi, rfl, rfl, hxs, hor, hrr, hbw⟩ := hrel
    clear c0 c1 c2 c3
    clear O E R'
    have O := Lib.hid hor
    have E := Lib.hid hbw
    have R := Lib.hid hrr
    have Hxs := Lib.hid hxs
    clear hor hbw hrr hxs
    by_cases hlt : i < hn
    · have hltI : decide (t + (i : Int) < bt) = true := decide_eq_true (by have := Hbt.out; omega)
      have c0 := R.out.cell_of (i := 0) rfl
      have c1 := R.out.cell_of (i := 1) rfl
      have c2 := R.out.cell_of (i := 2) rfl
      have c3 := R.out.cell_of (i := 3) rfl
      go_wp2_with fail
      go_loopw [7, 9] (fun o r wr => ∃ (k : Nat) (A1 : Option Addr) (cap1 : Nat) (xs : List Int), k ≤ wn ∧ r = .int .i64 (l + (k : Int)) ∧ o = .slice A1 xs.length cap1 ∧ xs = cellsM (tileF rs rule (l, t, rt, bt)) wn i k ∧ Has wr w.heap.size 3 1 (.slice A1 xs.length cap1) xs.length (xs.flatMap intC) ∧ Row wr w.heap.size 56 [.int .i64 l, .int .i64 t, .int .i64 rt, .int .i64 bt] ∧ Below w.heap.size w wr) (fun _ r _ => wn - (intOf r - l).toNat)
      case atStart => exact ⟨0, A1, cap1, xs, Nat.zero_le _, by simp, rfl, Hxs.out, O.out, R.out, E.out⟩
      case round =>
        obtain ⟨k, A2, cap2, ys, hk, rfl, rfl, hys, hor, hrr, hbw⟩ := hrel
        clear c0 c1 c2 c3
        clear O E R
        have O := Lib.hid hor
        have E := Lib.hid hbw
        have R := Lib.hid hrr
        have hzr : w.heap.size ≤ wr.heap.size := hbw.size
        have hyl : ys.length ≤ 156 := by rw [hys]; exact cellsM_len _ hw (by omega) (by omega)
        have Hys := Lib.hid hys
        clear hor hbw hrr hys
        by_cases hlk : k < wn
        · have hlkI : decide (l + (k : Int) < rt) = true := decide_eq_true (by have := Hrt.out; omega)
          have Hn : Hid (ys ++ [tileF rs rule (l, t, rt, bt) i k] = cellsM (tileF rs rule (l, t, rt, bt)) wn i (k + 1)) := Lib.hid (by rw [Hys.out, cellsM_succ])
          have KC : Hid (∀ W, Rgs W A rs → Calls Try.prog 70 #[.slice A rs.length cap, .int .i64 rule, .int .i64 (l + (k : Int)), .int .i64 (t + (i : Int))] W fun e w' => e = .returned (.int .i64 (tileF rs rule (l, t, rt, bt) i k)) ∧ Below W.heap.size W w') := Lib.hid (fun W hW => c_icover A cap rs rule (l + (k : Int)) (t + (i : Int)) W hW Hv.out (by have := Hrt.out; omega) (by have := Hbt.out; omega))
          generalize tileF rs rule (l, t, rt, bt) i k = q at *
          have c0 := R.out.cell_of (i := 0) rfl
          have c1 := R.out.cell_of (i := 1) rfl
          have c2 := R.out.cell_of (i := 2) rfl
          have c3 := R.out.cell_of (i := 3) rfl
          go_wp2_with fail
          clear c0 c1 c2 c3
          refine (KC.out _ (H.out.ext rgR_stab E.out)).mono ?_
          rintro e w2 ⟨rfl, hb⟩
          replace E := Lib.hid (Ext.trans E.out hb)
          replace O := Lib.hid (own_ext O.out hb)
          replace R := Lib.hid (R.out.ext hb)
          have lR := R.out.lt
          clear hb
          have c0 := R.out.cell_of (i := 0) rfl
          have c1 := R.out.cell_of (i := 1) rfl
          have c2 := R.out.cell_of (i := 2) rfl
          have c3 := R.out.cell_of (i := 3) rfl
          go_wp2_with (at_builtin; refine wpList_app (base := w.heap.size) ei_int rfl (.tmp 26) (.tmp 32) rfl rfl (own_ext O.out (ext_alloc _ _)) rfl (src_new _ _ [_] (m := 1) rfl (by intro u hu; simp only [List.mem_cons, List.not_mem_nil, or_false] at hu; subst hu; rfl)) (by omega) (by simp; omega) ?_; intro ve w3 hown hg hat; refine stop_in ?_)
          refine stop_out ?_
          obtain ⟨A3, cap3, hve⟩ := own_form hown
          clear c0 c1 c2 c3
          replace E := Lib.hid (Below.grown (Ext.trans E.out (ext_alloc _ _)) hg (by simp; omega) (fun k hk => by have := (O.out.lt k hk).1; omega))
          replace R := Lib.hid ((R.out.ext (ext_alloc _ _)).grownNe (own_ext O.out (ext_alloc _ _)) (by decide) hg)
          have lR := R.out.lt
          have heq : ys ++ [q] = (ys ++ [q]) := rfl
          replace O : Hid (Has w3 w.heap.size 3 1 (.slice A3 ((ys ++ [q])).length cap3) ((ys ++ [q])).length (((ys ++ [q])).flatMap intC)) := Lib.hid (by
            have q := hown
            rw [hve] at q
            rw [← heq, List.flatMap_append, List.length_append]
            exact q)
          have hvf : ve = .slice A3 ((ys ++ [q])).length cap3 := by rw [hve, ← heq, List.length_append]; rfl
          clear hve
          clear hown hg hat heq
          subst hvf
          have c0 := R.out.cell_of (i := 0) rfl
          have c1 := R.out.cell_of (i := 1) rfl
          have c2 := R.out.cell_of (i := 2) rfl
          have c3 := R.out.cell_of (i := 3) rfl
          go_wp2
          go_roundw
          case rel => exact ⟨k + 1, A3, cap3, _, by omega, by go_num, rfl, Hn.out, O.out, R.out, E.out⟩
          case measure => simp [intOf]; omega
        · obtain rfl : k = wn := by omega
          have hlkI : decide (l + (k : Int) < rt) = false := decide_eq_false (by have := Hrt.out; omega)
          have Hf : Hid (ys = cellsM (tileF rs rule (l, t, rt, bt)) k (i + 1) 0) := Lib.hid (by rw [Hys.out, cellsM_row])
          have c0 := R.out.cell_of (i := 0) rfl
          have c1 := R.out.cell_of (i := 1) rfl
          have c2 := R.out.cell_of (i := 2) rfl
          have c3 := R.out.cell_of (i := 3) rfl
          go_wp2
          go_roundw
          case rel => exact ⟨i + 1, A2, cap2, ys, by omega, by go_num, rfl, Hf.out, O.out, R.out, E.out⟩
          case measure => simp [intOf]; omega
    · obtain rfl : i = hn := by omega
      have hltI : decide (t + (i : Int) < bt) = false := decide_eq_false (by have := Hbt.out; omega)
      have hxl : xs.length ≤ 156 := by rw [Hxs.out]; exact cellsM_len _ hw (by omega) (by omega)
      have c0 := R.out.cell_of (i := 0) rfl
      have c1 := R.out.cell_of (i := 1) rfl
      have c2 := R.out.cell_of (i := 2) rfl
      have c3 := R.out.cell_of (i := 3) rfl
      go_wp2_with fail
      refine (c_Clip_ei_int A1 xs.length cap1 _ O.out.slok).mono ?_
      rintro e w' ⟨rfl, rfl⟩
      go_wp2
      go_ret
      rw [← Hxs.out]
      exact ⟨A1, xs.length, rfl, O.out.clip, E.out⟩
theorem sumI_take {α : Type} (f : α → Int) {l : List α} {k : Nat} (hk : k < l.length) : sumI ((l.take (k + 1)).map f) = sumI ((l.take k).map f) + f l[k] := by
  rw [List.take_succ_eq_append_getElem hk, List.map_append, List.map_cons, List.map_nil, sumI_snoc]
theorem sumI_tbd {α : Type} (f : α → Int) (l : List α) (h : ∀ x ∈ l, -2 ≤ f x ∧ f x ≤ 2) : -(2 * (l.length : Int)) ≤ sumI (l.map f) ∧ sumI (l.map f) ≤ 2 * (l.length : Int) := by
  have := sumI_bd (l := l.map f) (B := 2) (fun x hx => by obtain ⟨a, ha, rfl⟩ := List.mem_map.1 hx; exact h a ha)
  rw [List.length_map] at this
  omega
set_option maxRecDepth 100000 in
set_option maxHeartbeats 40000000 in
theorem c_tileCover (A A2 : Option Addr) (cap cap2 : Nat) (rs : List Rg) (l t rt bt rule c r : Int) (bs : List Int) (w : World) (h : Eds w A (touchL rs (l, t, rt, bt))) (hv : rgsB rs = true) (hb : Ints w A2 bs) (hbl : bs.length = 4)
    (hbs : ∀ (i : Nat) (hi : i < bs.length), bs[i] = windL rs (16 * l - 1) (16 * r + 4 * (i : Int) + 2)) (hl : 0 ≤ l ∧ l ≤ 12) (hc : l ≤ c ∧ c < rt) (hr : t ≤ r ∧ r < bt) (hrt : rt ≤ 12) (ht : 0 ≤ t) (hbt : bt ≤ 12) :
    Calls Try.prog 48 #[.slice A (touchL rs (l, t, rt, bt)).length cap, .slice A2 bs.length cap2, .int .i64 l, .int .i64 rule, .int .i64 c, .int .i64 r] w fun e w' => e = .returned (.int .i64 (coverL rs rule c r)) ∧ Below w.heap.size w w' := by
  obtain ⟨S, hS⟩ : ∃ S, coverL rs rule c r = S := ⟨_, rfl⟩
  rw [hS]
  have HS : Hid (((cnt (smpS rs rule c r) 4 0 : Nat) : Int) = S) := Lib.hid hS
  have H := Lib.hid h
  have Hb := Lib.hid hb
  have Hbl := Lib.hid hbl
  have Hbs := Lib.hid hbs
  have Hv := Lib.hid hv
  have hel : (touchL rs (l, t, rt, bt)).length ≤ 200 := Nat.le_trans (touchL_len _ _) (rgsB_iff.1 hv).2.2
  have Hpt : Hid (∀ e ∈ touchL rs (l, t, rt, bt), Crd2 e.1 ∧ Crd2 e.2) := Lib.hid (fun e he => edgesS_pts hv ((List.mem_filter.1 he).1))
  have Htw := Lib.hid (fun (x y : Int) hx hy => tile_wind rs (bx := (l, t, rt, bt)) (x := x) (y := y) hx hy)
  obtain ⟨c1, c2⟩ := hc
  obtain ⟨r1, r2⟩ := hr
  obtain ⟨l1, l2⟩ := hl
  clear h hv hS hb hbl hbs
  generalize touchL rs (l, t, rt, bt) = es at *
  dsimp only at Htw
  go_enter Try.func48, Try.ntmps48
  go_wp2_with fail
  go_loopw [13, 14, 15, 16, 17, 18, 19] (fun n i _ _ _ _ _ wr => ∃ (a m : Nat), a ≤ 4 ∧ i = .int .i64 a ∧ n = .int .i64 (m : Int) ∧ m = cnt (smpS rs rule c r) a 0 ∧ Ext w wr) (fun _ i _ _ _ _ _ _ => 4 - (intOf i).toNat)
  case atStart => exact ⟨0, 0, by omega, rfl, rfl, rfl, Below.refl _ _⟩
  case round =>
    obtain ⟨a, m, ha, rfl, rfl, hm, hbw⟩ := hrel
    have E := Lib.hid hbw
    have Hm := Lib.hid hm
    clear hbw hm
    by_cases hlt : a < 4
    · obtain ⟨wo, hwo⟩ : ∃ wo : World, wo = wr := ⟨_, rfl⟩
      subst hwo
      have hltI : decide ((a : Int) < 4) = true := by simp; omega
      go_wp2_with fail
      go_loopw [13, 16, 17, 18, 19] (fun n i _ _ _ wr => ∃ (b m : Nat), b ≤ 4 ∧ i = .int .i64 b ∧ n = .int .i64 (m : Int) ∧ m = cnt (smpS rs rule c r) a b ∧ Ext w wr) (fun _ i _ _ _ _ => 4 - (intOf i).toNat)
      case atStart => exact ⟨0, m, by omega, rfl, rfl, Hm.out, E.out⟩
      case round =>
        obtain ⟨b, m2, hb, rfl, rfl, hm2, hbw⟩ := hrel
        clear E
        have E := Lib.hid hbw
        have hmb : m2 ≤ 4 * a + b := by rw [hm2]; exact cnt_bd _ _ _
        have Hm2 := Lib.hid hm2
        clear hbw hm2
        by_cases hlb : b < 4
        · have hlbI : decide ((b : Int) < 4) = true := by simp; omega
          have Hs := Lib.hid (cnt_succ (smpS rs rule c r) a b)
          have hwb := windL_bd Hv.out (16 * c + 4 * (b : Int) + 2) (16 * r + 4 * (a : Int) + 2)
          have hwb0 := windL_bd Hv.out (16 * l - 1) (16 * r + 4 * (a : Int) + 2)
          have Hsm : Hid (smpS rs rule c r a b = insB (windL rs (16 * c + 4 * (b : Int) + 2) (16 * r + 4 * (a : Int) + 2)) rule) := Lib.hid rfl
          have Hw := Lib.hid (Htw.out (16 * c + 4 * (b : Int) + 2) (16 * r + 4 * (a : Int) + 2) (by omega) (by omega))
          obtain ⟨bq, boff, hA2, _, hbc⟩ := (Hb.out.ext intR_stab E.out).ints (by have := Hbl.out; omega)
          have cb := hbc a (by have := Hbl.out; omega)
          rw [Hbs.out a (by have := Hbl.out; omega)] at cb
          have haI : (a : Int) < (bs.length : Int) := by have := Hbl.out; omega
          generalize windL rs (16 * c + 4 * (b : Int) + 2) (16 * r + 4 * (a : Int) + 2) = n at *
          generalize windL rs (16 * l - 1) (16 * r + 4 * (a : Int) + 2) = n0 at *
          have hxb : -2000 ≤ 16 * c + 4 * (b : Int) + 2 ∧ 16 * c + 4 * (b : Int) + 2 ≤ 2000 := by omega
          have hyb : -2000 ≤ 16 * r + 4 * (a : Int) + 2 ∧ 16 * r + 4 * (a : Int) + 2 ≤ 2000 := by omega
          have hx0b : -2000 ≤ 16 * l - 1 ∧ 16 * l - 1 ≤ 2000 := by omega
          have KI := Lib.hid (fun W => c_sinside n rule W (by omega))
          rw [← Hsm.out] at KI
          generalize smpS rs rule c r a b = d at *
          obtain ⟨wo, hwo⟩ : ∃ wo : World, wo = wr := ⟨_, rfl⟩
          subst hwo
          subst hA2
          clear hbc
          go_wp2_with fail
          clear cb
          go_loopw [18, 19] (fun v i wr => ∃ (j : Nat), j ≤ es.length ∧ i = .int .i64 j ∧ v = .int .i64 (n0 + sumI ((es.take j).map fun e => stepL (16 * c + 4 * (b : Int) + 2) (16 * r + 4 * (a : Int) + 2) e.1 e.2 - stepL (16 * l - 1) (16 * r + 4 * (a : Int) + 2) e.1 e.2)) ∧ Ext w wr) (fun _ i _ => es.length - (intOf i).toNat)
          case atStart => exact ⟨0, Nat.zero_le _, rfl, by simp [sumI], E.out⟩
          case round =>
            obtain ⟨j, hj, rfl, rfl, hbw⟩ := hrel
            clear E
            have E := Lib.hid hbw
            clear hbw
            have hsb := sumI_tbd (fun e : Ed => stepL (16 * c + 4 * (b : Int) + 2) (16 * r + 4 * (a : Int) + 2) e.1 e.2 - stepL (16 * l - 1) (16 * r + 4 * (a : Int) + 2) e.1 e.2) (es.take j) (fun e _ => by have h1 := stepL_bd (16 * c + 4 * (b : Int) + 2) (16 * r + 4 * (a : Int) + 2) e.1 e.2; have h2 := stepL_bd (16 * l - 1) (16 * r + 4 * (a : Int) + 2) e.1 e.2; omega)
            rw [List.length_take] at hsb
            by_cases hjl : j < es.length
            · obtain ⟨b1, off1, hA, _, hc⟩ := (H.out.ext edR_stab E.out).eds (by omega)
              obtain ⟨d0, d1, d2, d3⟩ := hc j hjl
              obtain ⟨hp1, hp2⟩ := Hpt.out es[j] (List.getElem_mem hjl)
              have Hst := Lib.hid (sumI_take (fun e : Ed => stepL (16 * c + 4 * (b : Int) + 2) (16 * r + 4 * (a : Int) + 2) e.1 e.2 - stepL (16 * l - 1) (16 * r + 4 * (a : Int) + 2) e.1 e.2) hjl)
              have hb1 := stepL_bd (16 * c + 4 * (b : Int) + 2) (16 * r + 4 * (a : Int) + 2) es[j].1 es[j].2
              have hb2 := stepL_bd (16 * l - 1) (16 * r + 4 * (a : Int) + 2) es[j].1 es[j].2
              have hjI : (j : Int) < (es.length : Int) := by omega
              have hjd : decide ((j : Int) < (es.length : Int)) = true := decide_eq_true hjI
              clear hc
              generalize sumI ((es.take j).map fun e => stepL (16 * c + 4 * (b : Int) + 2) (16 * r + 4 * (a : Int) + 2) e.1 e.2 - stepL (16 * l - 1) (16 * r + 4 * (a : Int) + 2) e.1 e.2) = v at *
              generalize es[j] = e at *
              obtain ⟨p, q⟩ := e
              dsimp only at d0 d1 d2 d3 hp1 hp2 hb1 hb2
              have K1 := Lib.hid (fun W => c_stepOf p q (16 * c + 4 * (b : Int) + 2) (16 * r + 4 * (a : Int) + 2) W hp1 hp2 hxb hyb)
              have K2 := Lib.hid (fun W => c_stepOf p q (16 * l - 1) (16 * r + 4 * (a : Int) + 2) W hp1 hp2 hx0b hyb)
              have Hst2 : Hid (sumI ((es.take (j + 1)).map fun e => stepL (16 * c + 4 * (b : Int) + 2) (16 * r + 4 * (a : Int) + 2) e.1 e.2 - stepL (16 * l - 1) (16 * r + 4 * (a : Int) + 2) e.1 e.2) = v + (stepL (16 * c + 4 * (b : Int) + 2) (16 * r + 4 * (a : Int) + 2) p q - stepL (16 * l - 1) (16 * r + 4 * (a : Int) + 2) p q)) := Lib.hid Hst.out
              generalize stepL (16 * c + 4 * (b : Int) + 2) (16 * r + 4 * (a : Int) + 2) p q = s1 at *
              generalize stepL (16 * l - 1) (16 * r + 4 * (a : Int) + 2) p q = s2 at *
              obtain ⟨px, py⟩ := p
              obtain ⟨qx, qy⟩ := q
              have w1 : IntKind.i64.wrap (n0 + v + s1) = n0 + v + s1 := IntWalk.i64_in _ (by omega)
              have w2 : IntKind.i64.wrap (n0 + v + s1 - s2) = n0 + v + s1 - s2 := IntWalk.i64_in _ (by omega)
              have w3 : IntKind.i64.wrap (16 * l) = 16 * l := IntWalk.i64_in _ (by omega)
              have w4 : IntKind.i64.wrap (16 * l - 1) = 16 * l - 1 := IntWalk.i64_in _ (by omega)
              clear Hst hp1 hp2
              subst hA
              go_wp2_with fail
              refine wp_region_calm [0,1,2,3,4,5,6,7,8,9,10,11,12,13,14,15,16,17,18,19,20,21,22,23,24,25,26,27,28,29,30,31] [] (by kernel_rfl) (by kernel_rfl) ?_
              (refine calm_yes rfl rfl (fun w' hC => (by have d0 := hC.cell d0; have d1 := hC.cell d1; have d2 := hC.cell d2; have d3 := hC.cell d3; go_simp; rfl)) (fun K hK => ?_); go_simp; refine hK _ ?_; clear hK K)
              (refine calm_yes rfl rfl (fun w' hC => (by have d0 := hC.cell d0; have d1 := hC.cell d1; have d2 := hC.cell d2; have d3 := hC.cell d3; go_simp; rfl)) (fun K hK => ?_); go_simp; refine hK _ ?_; clear hK K)
              (refine calm_yes rfl rfl (fun w' hC => (by have d0 := hC.cell d0; have d1 := hC.cell d1; have d2 := hC.cell d2; have d3 := hC.cell d3; go_simp; rfl)) (fun K hK => ?_); go_simp; refine hK _ ?_; clear hK K)
              (refine calm_yes rfl rfl (fun w' hC => (by have d0 := hC.cell d0; have d1 := hC.cell d1; have d2 := hC.cell d2; have d3 := hC.cell d3; go_simp; rfl)) (fun K hK => ?_); go_simp; refine hK _ ?_; clear hK K)
              (refine calm_yes rfl rfl (fun w' hC => (by have d0 := hC.cell d0; have d1 := hC.cell d1; have d2 := hC.cell d2; have d3 := hC.cell d3; go_simp; rfl)) (fun K hK => ?_); go_simp; refine hK _ ?_; clear hK K)
              (refine calm_yes rfl rfl (fun w' hC => (by have d0 := hC.cell d0; have d1 := hC.cell d1; have d2 := hC.cell d2; have d3 := hC.cell d3; go_simp; rfl)) (fun K hK => ?_); go_simp; refine hK _ ?_; clear hK K)
              (refine calm_yes rfl rfl (fun w' hC => (by have d0 := hC.cell d0; have d1 := hC.cell d1; have d2 := hC.cell d2; have d3 := hC.cell d3; go_simp; rfl)) (fun K hK => ?_); go_simp; refine hK _ ?_; clear hK K)
              (refine calm_yes rfl rfl (fun w' hC => (by have d0 := hC.cell d0; have d1 := hC.cell d1; have d2 := hC.cell d2; have d3 := hC.cell d3; go_simp; rfl)) (fun K hK => ?_); go_simp; refine hK _ ?_; clear hK K)
              (refine calm_yes rfl rfl (fun w' hC => (by have d0 := hC.cell d0; have d1 := hC.cell d1; have d2 := hC.cell d2; have d3 := hC.cell d3; go_simp; rfl)) (fun K hK => ?_); go_simp; refine hK _ ?_; clear hK K)
              (refine calm_yes rfl rfl (fun w' hC => (by have d0 := hC.cell d0; have d1 := hC.cell d1; have d2 := hC.cell d2; have d3 := hC.cell d3; go_simp; rfl)) (fun K hK => ?_); go_simp; refine hK _ ?_; clear hK K)
              (refine calm_yes rfl rfl (fun w' hC => (by have d0 := hC.cell d0; have d1 := hC.cell d1; have d2 := hC.cell d2; have d3 := hC.cell d3; go_simp; rfl)) (fun K hK => ?_); go_simp; refine hK _ ?_; clear hK K)
              (refine calm_yes rfl rfl (fun w' hC => (by have d0 := hC.cell d0; have d1 := hC.cell d1; have d2 := hC.cell d2; have d3 := hC.cell d3; go_simp; rfl)) (fun K hK => ?_); go_simp; refine hK _ ?_; clear hK K)
              (refine calm_yes rfl rfl (fun w' hC => (by have d0 := hC.cell d0; have d1 := hC.cell d1; have d2 := hC.cell d2; have d3 := hC.cell d3; go_simp; rfl)) (fun K hK => ?_); go_simp; refine hK _ ?_; clear hK K)
              (apply calm_call rfl rfl rfl Try.func67 (by kernel_rfl) rfl (by go_simp; rfl); exact (fun w' hC => K1.out w'); intro K hK; go_simp; refine hK _ ?_; clear hK K)
              (refine calm_yes rfl rfl (fun w' hC => (by have d0 := hC.cell d0; have d1 := hC.cell d1; have d2 := hC.cell d2; have d3 := hC.cell d3; go_simp; rfl)) (fun K hK => ?_); go_simp; refine hK _ ?_; clear hK K)
              (refine calm_yes rfl rfl (fun w' hC => (by have d0 := hC.cell d0; have d1 := hC.cell d1; have d2 := hC.cell d2; have d3 := hC.cell d3; go_simp; rfl)) (fun K hK => ?_); go_simp; refine hK _ ?_; clear hK K)
              (refine calm_yes rfl rfl (fun w' hC => (by have d0 := hC.cell d0; have d1 := hC.cell d1; have d2 := hC.cell d2; have d3 := hC.cell d3; go_simp; rfl)) (fun K hK => ?_); go_simp; refine hK _ ?_; clear hK K)
              (refine calm_yes rfl rfl (fun w' hC => (by have d0 := hC.cell d0; have d1 := hC.cell d1; have d2 := hC.cell d2; have d3 := hC.cell d3; go_simp; rfl)) (fun K hK => ?_); go_simp; refine hK _ ?_; clear hK K)
              (refine calm_yes rfl rfl (fun w' hC => (by have d0 := hC.cell d0; have d1 := hC.cell d1; have d2 := hC.cell d2; have d3 := hC.cell d3; go_simp; rfl)) (fun K hK => ?_); go_simp; refine hK _ ?_; clear hK K)
              (refine calm_yes rfl rfl (fun w' hC => (by have d0 := hC.cell d0; have d1 := hC.cell d1; have d2 := hC.cell d2; have d3 := hC.cell d3; go_simp; rfl)) (fun K hK => ?_); go_simp; refine hK _ ?_; clear hK K)
              (refine calm_yes rfl rfl (fun w' hC => (by have d0 := hC.cell d0; have d1 := hC.cell d1; have d2 := hC.cell d2; have d3 := hC.cell d3; go_simp; rfl)) (fun K hK => ?_); go_simp; refine hK _ ?_; clear hK K)
              (refine calm_yes rfl rfl (fun w' hC => (by have d0 := hC.cell d0; have d1 := hC.cell d1; have d2 := hC.cell d2; have d3 := hC.cell d3; go_simp; rfl)) (fun K hK => ?_); go_simp; refine hK _ ?_; clear hK K)
              (refine calm_yes rfl rfl (fun w' hC => (by have d0 := hC.cell d0; have d1 := hC.cell d1; have d2 := hC.cell d2; have d3 := hC.cell d3; go_simp; rfl)) (fun K hK => ?_); go_simp; refine hK _ ?_; clear hK K)
              (refine calm_yes rfl rfl (fun w' hC => (by have d0 := hC.cell d0; have d1 := hC.cell d1; have d2 := hC.cell d2; have d3 := hC.cell d3; go_simp; rfl)) (fun K hK => ?_); go_simp; refine hK _ ?_; clear hK K)
              (refine calm_yes rfl rfl (fun w' hC => (by have d0 := hC.cell d0; have d1 := hC.cell d1; have d2 := hC.cell d2; have d3 := hC.cell d3; go_simp; rfl)) (fun K hK => ?_); go_simp; refine hK _ ?_; clear hK K)
              (refine calm_yes rfl rfl (fun w' hC => (by have d0 := hC.cell d0; have d1 := hC.cell d1; have d2 := hC.cell d2; have d3 := hC.cell d3; go_simp; rfl)) (fun K hK => ?_); go_simp; refine hK _ ?_; clear hK K)
              (refine calm_yes rfl rfl (fun w' hC => (by have d0 := hC.cell d0; have d1 := hC.cell d1; have d2 := hC.cell d2; have d3 := hC.cell d3; go_simp; rfl)) (fun K hK => ?_); go_simp; refine hK _ ?_; clear hK K)
              (refine calm_yes rfl rfl (fun w' hC => (by have d0 := hC.cell d0; have d1 := hC.cell d1; have d2 := hC.cell d2; have d3 := hC.cell d3; go_simp; rfl)) (fun K hK => ?_); go_simp; refine hK _ ?_; clear hK K)
              (refine calm_yes rfl rfl (fun w' hC => (by have d0 := hC.cell d0; have d1 := hC.cell d1; have d2 := hC.cell d2; have d3 := hC.cell d3; go_simp; rfl)) (fun K hK => ?_); go_simp; refine hK _ ?_; clear hK K)
              (apply calm_call rfl rfl rfl Try.func67 (by kernel_rfl) rfl (by go_simp; rfl); exact (fun w' hC => K2.out w'); intro K hK; go_simp; refine hK _ ?_; clear hK K)
              (refine calm_yes rfl rfl (fun w' hC => (by have d0 := hC.cell d0; have d1 := hC.cell d1; have d2 := hC.cell d2; have d3 := hC.cell d3; go_simp; rfl)) (fun K hK => ?_); go_simp; refine hK _ ?_; clear hK K)
              (refine calm_yes rfl rfl (fun w' hC => (by have d0 := hC.cell d0; have d1 := hC.cell d1; have d2 := hC.cell d2; have d3 := hC.cell d3; go_simp; rfl)) (fun K hK => ?_); go_simp; refine hK _ ?_; clear hK K)
              refine calm_done (fun w6 hb => ?_)
              clear d0 d1 d2 d3
              replace E := Lib.hid (Ext.trans E.out hb)
              clear hb
              go_wp2
              go_roundw
              case rel => exact ⟨j + 1, by omega, by go_num, by rw [Hst2.out]; congr 1; omega, E.out⟩
              case measure => simp [intOf]; omega
            · have hjd : decide ((j : Int) < (es.length : Int)) = false := decide_eq_false (by omega)
              have hj' : j = es.length := by omega
              have hf : n0 + sumI ((es.take j).map fun e => stepL (16 * c + 4 * (b : Int) + 2) (16 * r + 4 * (a : Int) + 2) e.1 e.2 - stepL (16 * l - 1) (16 * r + 4 * (a : Int) + 2) e.1 e.2) = n := by rw [hj', List.take_length]; exact Hw.out
              rw [hf]
              clear hf hj' hsb
              go_wp2_with fail
              refine (KI.out _).mono ?_
              rintro e w' ⟨rfl, rfl⟩
              go_wp2_with fail
              refine (c_toInt d _).mono ?_
              rintro e w' ⟨rfl, rfl⟩
              cases d
              · go_wp2
                go_roundw
                case rel => exact ⟨b + 1, m2, by omega, by go_num, by simp, by rw [Hs.out, Hm2.out]; simp, E.out⟩
                case measure => simp [intOf]; omega
              · go_wp2
                go_roundw
                case rel => exact ⟨b + 1, m2 + 1, by omega, by go_num, by simp, by rw [Hs.out, Hm2.out]; simp, E.out⟩
                case measure => simp [intOf]; omega
        · have hb4 : b = 4 := by omega
          have hlbI : decide ((b : Int) < 4) = false := by simp; omega
          have Hr := Lib.hid (cnt_row (smpS rs rule c r) a)
          have Hm3 : Hid (m2 = cnt (smpS rs rule c r) (a + 1) 0) := Lib.hid (by rw [Hm2.out, hb4, Hr.out])
          clear hb4
          go_wp2
          go_roundw
          case rel => exact ⟨a + 1, m2, by omega, by go_num, rfl, Hm3.out, E.out⟩
          case measure => simp [intOf]; omega
    · have ha4 : a = 4 := by omega
      have hltI : decide ((a : Int) < 4) = false := by simp; omega
      have Hf : Hid ((m : Int) = S) := Lib.hid (by rw [← HS.out, Hm.out, ha4])
      clear ha4
      go_wp2
      go_ret
      exact ⟨ret_i (by rw [Hf.out]), E.out⟩
end Go.Proofs.Ytefbebikbdigfaa
