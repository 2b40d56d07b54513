/-
  Pictures of scenes: the walks.
-/
import Derived.Test.YtagmnbphbakikaaGreatMg13
import Derived.Test.YtagmnbphbakikaaGreatMg11
import Derived.Test.YtagmnbphbakikaaGreatPaintQ
namespace Go.Proofs.YtagmnbphbakikaaGreat
open Go Go.RowKit Reg
attribute [local go_sem] calmAt calmUpon
theorem run_make_cap {P : Program} {t e : TypeId} {z : Value} {zl : List Value} {bytes : Nat} (E : EI P t e z zl bytes) (n : Nat) (hn : n ≤ 4000000000) (w : World) :
    (Instr.makeSlice t (.int .i64 0) (.int .i64 (n : Int))).run P w = .ok (.slice (some ⟨w.heap.size, 0, none⟩) 0 n) (w.alloc (.cells ((List.replicate n zl).flatten).toArray e)) := by
  obtain ⟨i, h1, h2, h3, h4⟩ := E.info
  have hs := E.small
  have hb : i.bytes * n ≤ 1000 * 4000000000 := Nat.mul_le_mul (by omega) hn
  have hb' : (i.bytes : Int) * (n : Int) ≤ 281474976710656 := by rw [← Int.natCast_mul]; omega
  have hr := run_make (P := P) w t e i z E.und h1 h2 .i64 .i64 0 (n : Int) (Int.le_refl _) (by omega) hb' (by omega)
  rw [hr, Int.toNat_natCast, h3, madeCells_eq n E.zc E.pos]
  rfl
theorem own_cap {w : World} {B b n sz : Nat} {e : TypeId} {zl : List Value} (h : Row w b e ((List.replicate n zl).flatten)) (hB : B ≤ b) (hz : zl.length = sz) (hn : n ≤ 4000000) : Has w B e sz (.slice (some ⟨b, 0, none⟩) 0 n) 0 [] := by
  refine ⟨by simp, .inr ⟨b, n, _, rfl, hB, h, Nat.zero_le _, by unfold maxLen; omega, ?_, by simp⟩⟩
  simp [hz]
theorem ei_co : EI Tryz.prog 35 118 (.agg #[.int .i64 0, .int .i64 0, .int .i64 0, .int .i64 0]) [.int .i64 0, .int .i64 0, .int .i64 0, .int .i64 0] 32 := ei_mk Tryz.underlying35 (by kernel_rfl) rfl (by decide) (by decide)
/-- Colors returned, in a row of their own. -/
def RetCo (w : World) (cs : List Bx4) (e : Ending) (w' : World) : Prop := ∃ A' cap', e = .returned (.slice A' cs.length cap') ∧ Has w' w.heap.size 118 4 (.slice A' cs.length cap') cs.length (cs.flatMap bxC) ∧ Below w.heap.size w w'
theorem RetCo.none {w w' : World} {cs : List Bx4} (h : cs = []) (hb : Below w.heap.size w w') : RetCo w cs (.returned (.slice Option.none 0 0)) w' := by
  subst h; exact ⟨.none, 0, rfl, own_nil _ _ _ _, hb⟩
theorem cos_own {w : World} {B : Nat} {A : Option Addr} {cs : List Bx4} {cap : Nat} (h : Has w B 118 4 (.slice A cs.length cap) cs.length (cs.flatMap bxC)) : Cos w A cs := own_in (enc := bxC) bxC_len (by decide) h (fun _ => rfl)
set_option maxHeartbeats 1000000 in
theorem c_eqColorS (A1 A2 : Option Addr) (cap1 cap2 : Nat) (cs : List Bx4) (w : World) (h1 : Cos w A1 cs) (h2 : Cos w A2 cs) (hl : cs.length ≤ 1048576) :
    Calls Tryz.prog 42 #[.slice A1 cs.length cap1, .slice A2 cs.length cap2] w fun e w' => e = .returned (.bool true) ∧ Below w.heap.size w w' := by
  have H := Lib.hid h1
  have H2 := Lib.hid h2
  clear h1 h2
  go_enter Tryz.func42, Tryz.ntmps42
  go_wp2_with fail
  go_loopw [5] (fun i wr => ∃ (k : Nat), k ≤ cs.length ∧ i = .int .i64 k ∧ Ext w wr) (fun i _ => cs.length - (intOf i).toNat)
  case atStart => exact ⟨0, Nat.zero_le _, rfl, Below.refl _ _⟩
  case round =>
    obtain ⟨k, hk, rfl, hbw⟩ := hrel
    have E := Lib.hid hbw
    clear hbw
    by_cases hlt : k < cs.length
    · obtain ⟨b, off, hA, _, hc⟩ := (H.out.ext coR_stab E.out).cos (by omega)
      obtain ⟨b2, off2, hA2, _, hc2⟩ := (H2.out.ext coR_stab E.out).cos (by omega)
      obtain ⟨x0, x1, x2, x3⟩ := hc k hlt
      obtain ⟨y0, y1, y2, y3⟩ := hc2 k hlt
      clear hc hc2
      generalize cs[k] = q at *
      subst hA hA2
      obtain ⟨q0, q1, q2, q3⟩ := q
      dsimp only at x0 x1 x2 x3 y0 y1 y2 y3
      have hkI : (k : Int) < (cs.length : Int) := by omega
      go_wp2_with fail
      refine wp_region_calm [0,1,2,3,4,5,6,7] [8,9] (by kernel_rfl) (by kernel_rfl) ?_
      iterate 8 ((refine calm_yes rfl rfl (fun w' hC => (by have x0 := hC.cell x0; have x1 := hC.cell x1; have x2 := hC.cell x2; have x3 := hC.cell x3; have y0 := hC.cell y0; have y1 := hC.cell y1; have y2 := hC.cell y2; have y3 := hC.cell y3; go_simp; rfl)) (fun K hK => ?_); go_simp; refine hK _ ?_; clear hK K))
      refine calm_nil (fun wa hCa => ?_)
      clear x0 x1 x2 x3 y0 y1 y2 y3
      have Ea := ext_cls hCa
      refine late_fn rfl rfl rfl Tryz.func84 (by kernel_rfl) rfl (by go_simp) (fun wb hxb K hK => (c_eqColor (q0, q1, q2, q3) wb).mono ?_)
      rintro e wc ⟨rfl, hb⟩
      refine ⟨_, rfl, hK _ _ ⟨fun _ => Cls.ext (Cls.ext hCa hxb) hb, ?_⟩⟩
      clear hK K
      refine late_free (by kernel_rfl) rfl rfl (fun wf hxf K hK => ?_)
      go_simp
      refine hK _ _ ?_
      clear hK K
      refine late_nil (fun wz hxz => ?_)
      have E2 := Lib.hid (Ext.trans E.out (Ext.trans (Ext.trans Ea (Ext.trans hxb hb)) (Ext.trans hxf hxz)))
      clear hxb hb hxf hxz hCa Ea
      go_wp2
      go_roundw
      case rel => exact ⟨k + 1, by omega, by go_num, E2.out⟩
      case measure => simp [intOf]; omega
    · have hk' : ¬ ((k : Int) < (cs.length : Int)) := by omega
      go_wp2
      go_ret
      exact ⟨rfl, E.out⟩
set_option maxRecDepth 100000 in
set_option maxHeartbeats 4000000 in
theorem c_idraw (W H : Int) (A : Option Addr) (cap : Nat) (fs : List FlD) (w : World) (h : Fls w A fs) (hv : ∀ f ∈ fs, pathOk f.1 = true ∧ rgsB (ringsL f.1) = true ∧ inB f.2.1 0 1 = true ∧ paB f.2.2.1 f.2.2.2.1 f.2.2.2.2 = true) (hl : fs.length ≤ 4) (hW : 1 ≤ W ∧ W ≤ 12) (hH : 1 ≤ H ∧ H ≤ 12) :
    Calls Tryz.prog 39 #[.agg #[.int .i64 W, .int .i64 H, .slice A fs.length cap]] w fun e w' => RetCo w (drawL W H fs) e w' := by
  obtain ⟨wn, rfl⟩ : ∃ wn : Nat, W = wn := ⟨W.toNat, by omega⟩
  obtain ⟨hn, rfl⟩ : ∃ hn : Nat, H = hn := ⟨H.toNat, by omega⟩
  have hw : wn ≤ 12 := by omega
  have hh : hn ≤ 12 := by omega
  have HD : Hid (drawL wn hn fs = pixA fs wn hn 0) := Lib.hid (by simp [drawL])
  obtain ⟨M, hM⟩ : ∃ M, drawL wn hn fs = M := ⟨_, rfl⟩
  rw [hM] at HD ⊢
  have PW := Lib.hid h
  have Hv := Lib.hid hv
  have E := Lib.hid (Below.refl w.heap.size w)
  clear h hv hM hW hH
  have hp : wn * hn ≤ 144 := Nat.mul_le_mul hw hh
  have g1 : IntKind.i64.wrap ((wn : Int) * (hn : Int)) = (wn : Int) * (hn : Int) := by rw [← Int.natCast_mul]; exact IntWalk.i64_in _ (by omega)
  have hmk : ∀ Wd, (Instr.makeSlice 35 (.int .i64 0) (.int .i64 ((wn : Int) * (hn : Int)))).run Tryz.prog Wd = .ok (.slice (some ⟨Wd.heap.size, 0, none⟩) 0 (wn * hn)) (Wd.alloc (.cells ((List.replicate (wn * hn) [Value.int .i64 0, .int .i64 0, .int .i64 0, .int .i64 0]).flatten).toArray 118)) := fun Wd => by rw [← Int.natCast_mul]; exact run_make_cap ei_co (wn * hn) (by omega) Wd
  go_enter Tryz.func39, Tryz.ntmps39
  go_wp2_with fail
  clear hmk g1
  refine gen_code (fun w1 hw1 => ?_)
  obtain ⟨E1, hR0, hR1⟩ := new2 (c1 := [_, _, _]) (c2 := (List.replicate (wn * hn) [Value.int .i64 0, .int .i64 0, .int .i64 0, .int .i64 0]).flatten) hw1
  have O := Lib.hid (own_cap (B := w.heap.size) hR1 (by omega) (sz := 4) rfl (by omega))
  replace E := Lib.hid E1
  have R0 := Lib.hid hR0
  clear hw1 hR1 hR0 E1
  have k0 := R0.out.cell_of (i := 0) rfl
  have k1 := R0.out.cell_of (i := 1) rfl
  have k2 := R0.out.cell_of (i := 2) rfl
  go_loopw [3, 14] (fun o r wr => ∃ (i : Nat) (A1 : Option Addr) (cap1 : Nat) (xs : List Bx4), i ≤ hn ∧ r = .int .i64 i ∧ o = .slice A1 xs.length cap1 ∧ xs = pixA fs wn i 0 ∧ Has wr w.heap.size 118 4 (.slice A1 xs.length cap1) xs.length (xs.flatMap bxC) ∧ Row wr w.heap.size 42 [.int .i64 wn, .int .i64 hn, .slice A fs.length cap] ∧ Below w.heap.size w wr) (fun _ r _ => hn - (intOf r).toNat)
  case atStart => exact ⟨0, _, _, [], Nat.zero_le _, rfl, rfl, rfl, O.out, R0.out, E.out⟩
  case round =>
    obtain ⟨i, A1, cap1, xs, hi, rfl, rfl, hxs, hor, hrr, hbw⟩ := hrel
    clear k0 k1 k2
    clear O E R0
    have O := Lib.hid hor
    have E := Lib.hid hbw
    have R := Lib.hid hrr
    have Hxs := Lib.hid hxs
    clear hor hbw hrr hxs
    by_cases hlt : i < hn
    · have hltI : decide ((i : Int) < (hn : Int)) = true := by simp; omega
      have c0 := R.out.cell_of (i := 0) rfl
      have c1 := R.out.cell_of (i := 1) rfl
      have c2 := R.out.cell_of (i := 2) rfl
      go_wp2_with fail
      go_loopw [3, 19] (fun o r wr => ∃ (k : Nat) (A1 : Option Addr) (cap1 : Nat) (xs : List Bx4), k ≤ wn ∧ r = .int .i64 k ∧ o = .slice A1 xs.length cap1 ∧ xs = pixA fs wn i k ∧ Has wr w.heap.size 118 4 (.slice A1 xs.length cap1) xs.length (xs.flatMap bxC) ∧ Row wr w.heap.size 42 [.int .i64 wn, .int .i64 hn, .slice A fs.length cap] ∧ Below w.heap.size w wr) (fun _ r _ => wn - (intOf r).toNat)
      case atStart => exact ⟨0, A1, cap1, xs, Nat.zero_le _, rfl, rfl, Hxs.out, O.out, R.out, E.out⟩
      case round =>
        obtain ⟨k, A2, cap2, ys, hk, rfl, rfl, hys, hor, hrr, hbw⟩ := hrel
        clear c0 c1 c2
        clear O E R
        have O := Lib.hid hor
        have E := Lib.hid hbw
        have R := Lib.hid hrr
        have hzr : w.heap.size ≤ wr.heap.size := hbw.size
        have hyl : ys.length ≤ 156 := by rw [hys]; exact pixA_bd _ hw (by omega) (by omega)
        have Hys := Lib.hid hys
        clear hor hbw hrr hys
        by_cases hlk : k < wn
        · have hlkI : decide ((k : Int) < (wn : Int)) = true := by simp; omega
          have Hn : Hid (ys ++ [pixL fs (k : Nat) (i : Nat)] = pixA fs wn i (k + 1)) := Lib.hid (by rw [Hys.out, pixA_succ])
          have KC := Lib.hid (fun Wd (hW : Fls Wd A fs) => c_ipixel wn hn A cap fs k i Wd hW Hv.out hl (inB_iff.2 (by omega)) (inB_iff.2 (by omega)))
          generalize pixL fs (k : Nat) (i : Nat) = q at *
          have c0 := R.out.cell_of (i := 0) rfl
          have c1 := R.out.cell_of (i := 1) rfl
          have c2 := R.out.cell_of (i := 2) rfl
          go_wp2_with fail
          clear c0 c1 c2
          refine (KC.out _ (PW.out.ext flR_stab E.out)).mono ?_
          rintro e w2 ⟨rfl, hb⟩
          replace E := Lib.hid (Ext.trans E.out hb)
          replace O := Lib.hid (own_ext O.out hb)
          replace R := Lib.hid (R.out.ext hb)
          have lR := R.out.lt
          clear hb
          have c0 := R.out.cell_of (i := 0) rfl
          have c1 := R.out.cell_of (i := 1) rfl
          have c2 := R.out.cell_of (i := 2) rfl
          go_wp2_with (at_builtin; refine wpList_app (base := w.heap.size) ei_co rfl (.tmp 22) (.tmp 27) rfl rfl (own_ext O.out (ext_alloc _ _)) rfl (src_new _ _ [_, _, _, _] (m := 1) rfl (by intro u hu; simp only [List.mem_cons, List.not_mem_nil, or_false] at hu; rcases hu with rfl | rfl | rfl | rfl <;> rfl)) (by omega) (by simp; omega) ?_; intro ve w3 hown hg hat; refine stop_in ?_)
          refine stop_out ?_
          obtain ⟨A3, cap3, hve⟩ := own_form hown
          clear c0 c1 c2
          replace E := Lib.hid (Below.grown (Ext.trans E.out (ext_alloc _ _)) hg (by simp; omega) (fun k hk => by have := (O.out.lt k hk).1; omega))
          replace R := Lib.hid ((R.out.ext (ext_alloc _ _)).grownNe (own_ext O.out (ext_alloc _ _)) (by decide) hg)
          have lR := R.out.lt
          have heq : ys ++ [q] = (ys ++ [q]) := rfl
          replace O : Hid (Has w3 w.heap.size 118 4 (.slice A3 ((ys ++ [q])).length cap3) ((ys ++ [q])).length (((ys ++ [q])).flatMap bxC)) := Lib.hid (by
            have q := hown
            rw [hve] at q
            rw [← heq, List.flatMap_append, List.length_append]
            exact q)
          have hvf : ve = .slice A3 ((ys ++ [q])).length cap3 := by rw [hve, ← heq, List.length_append]; rfl
          clear hve
          clear hown hg hat heq
          subst hvf
          have c0 := R.out.cell_of (i := 0) rfl
          have c1 := R.out.cell_of (i := 1) rfl
          have c2 := R.out.cell_of (i := 2) rfl
          go_wp2
          go_roundw
          case rel => exact ⟨k + 1, A3, cap3, _, by omega, by go_num, rfl, Hn.out, O.out, R.out, E.out⟩
          case measure => simp [intOf]; omega
        · obtain rfl : k = wn := by omega
          have hlkI : decide ((k : Int) < (k : Int)) = false := by simp
          have Hf : Hid (ys = pixA fs k (i + 1) 0) := Lib.hid (by rw [Hys.out, pixA_row])
          have c0 := R.out.cell_of (i := 0) rfl
          have c1 := R.out.cell_of (i := 1) rfl
          have c2 := R.out.cell_of (i := 2) rfl
          go_wp2
          go_roundw
          case rel => exact ⟨i + 1, A2, cap2, ys, by omega, by go_num, rfl, Hf.out, O.out, R.out, E.out⟩
          case measure => simp [intOf]; omega
    · obtain rfl : i = hn := by omega
      have hltI : decide ((i : Int) < (i : Int)) = false := by simp
      have c0 := R.out.cell_of (i := 0) rfl
      have c1 := R.out.cell_of (i := 1) rfl
      have c2 := R.out.cell_of (i := 2) rfl
      go_wp2
      go_ret
      obtain rfl : xs = M := by rw [Hxs.out, HD.out]
      exact ⟨A1, cap1, rfl, O.out, E.out⟩
set_option maxRecDepth 100000 in
set_option maxHeartbeats 4000000 in
theorem c_sDrawScene (W H : Int) (A : Option Addr) (cap : Nat) (fs : List FlD) (w : World) (h : Fls w A fs) (hsm : flsSm fs) :
    Calls Tryz.prog 30 #[.agg #[.int .i64 W, .int .i64 H, .slice A fs.length cap]] w fun e w' => RetCo w (drawR W H fs) e w' := by
  have PW := Lib.hid h
  have Hsm := Lib.hid hsm
  have E := Lib.hid (Below.refl w.heap.size w)
  obtain ⟨d1, hd1⟩ : ∃ d, scB W H fs = d := ⟨_, rfl⟩
  have HR : Hid (drawR W H fs = if d1 then drawL W H fs else []) := Lib.hid (by unfold drawR; rw [hd1])
  obtain ⟨M, hM⟩ : ∃ M, drawR W H fs = M := ⟨_, rfl⟩
  rw [hM] at HR ⊢
  have H1 := Lib.hid hd1
  clear h hsm hd1 hM
  go_enter Tryz.func30, Tryz.ntmps30
  go_wp2_with fail
  first | refine gen_calls ?_ | refine gen_code ?_ | refine gen_list ?_
  intro w0 hW
  obtain ⟨hb, hR0, hR⟩ := new2 hW
  clear hW
  replace E := Lib.hid (Ext.trans E.out hb)
  clear hb
  have R0 := Lib.hid hR0
  have lR0 := R0.out.lt
  clear hR0
  have R := Lib.hid hR
  have lR := R.out.lt
  clear hR
  have O := Lib.hid (own_of_row (n := 0) (B := w.heap.size) (sz := 4) R.out (by omega) rfl (by decide))
  clear R lR
  have k0 := R0.out.cell_of (i := 0) rfl
  have k1 := R0.out.cell_of (i := 1) rfl
  have k2 := R0.out.cell_of (i := 2) rfl
  go_wp2_with fail
  clear k0 k1 k2
  refine (c_sValidScene W H A cap fs _ (PW.out.ext flR_stab E.out) Hsm.out).mono ?_
  rw [H1.out]
  rintro e w1 ⟨rfl, hb⟩
  replace E := Lib.hid (Ext.trans E.out hb)
  replace R0 := Lib.hid (R0.out.ext hb)
  have lR0 := R0.out.lt
  replace O := Lib.hid (own_ext O.out hb)
  clear hb
  have k0 := R0.out.cell_of (i := 0) rfl
  have k1 := R0.out.cell_of (i := 1) rfl
  have k2 := R0.out.cell_of (i := 2) rfl
  cases d1
  · have Hz : Hid (M = []) := Lib.hid (by rw [HR.out]; simp)
    go_wp2
    go_ret
    exact RetCo.none Hz.out E.out
  · obtain ⟨hW, hH⟩ := scB_sz H1.out
    have HD : Hid (M = pixA fs W.toNat H.toNat 0) := Lib.hid (by rw [HR.out]; simp [drawL])
    obtain ⟨wn, rfl⟩ : ∃ wn : Nat, W = wn := ⟨W.toNat, by omega⟩
    obtain ⟨hn, rfl⟩ : ∃ hn : Nat, H = hn := ⟨H.toNat, by omega⟩
    rw [Int.toNat_natCast, Int.toNat_natCast] at HD
    have hw : wn ≤ 12 := by omega
    have hh : hn ≤ 12 := by omega
    have Hv := Lib.hid (scB_all H1.out)
    have hl := scB_le H1.out
    clear HR H1 hW hH
    go_wp2_with fail
    go_loopw [3, 4, 5] (fun o r _ wr => ∃ (i : Nat) (A1 : Option Addr) (cap1 : Nat) (xs : List Bx4), i ≤ hn ∧ r = .int .i64 i ∧ o = .slice A1 xs.length cap1 ∧ xs = pixA fs wn i 0 ∧ Has wr w.heap.size 118 4 (.slice A1 xs.length cap1) xs.length (xs.flatMap bxC) ∧ Row wr w.heap.size 42 [.int .i64 wn, .int .i64 hn, .slice A fs.length cap] ∧ Below w.heap.size w wr) (fun _ r _ _ => hn - (intOf r).toNat)
    case atStart => exact ⟨0, _, _, [], Nat.zero_le _, rfl, rfl, rfl, O.out, R0.out, E.out⟩
    case round =>
      obtain ⟨i, A1, cap1, xs, hi, rfl, rfl, hxs, hor, hrr, hbw⟩ := hrel
      clear k0 k1 k2
      clear O E R0
      have O := Lib.hid hor
      have E := Lib.hid hbw
      have R := Lib.hid hrr
      have Hxs := Lib.hid hxs
      clear hor hbw hrr hxs
      by_cases hlt : i < hn
      · have hltI : decide ((i : Int) < (hn : Int)) = true := by simp; omega
        have c0 := R.out.cell_of (i := 0) rfl
        have c1 := R.out.cell_of (i := 1) rfl
        have c2 := R.out.cell_of (i := 2) rfl
        go_wp2_with fail
        go_loopw [3, 5] (fun o r wr => ∃ (k : Nat) (A1 : Option Addr) (cap1 : Nat) (xs : List Bx4), k ≤ wn ∧ r = .int .i64 k ∧ o = .slice A1 xs.length cap1 ∧ xs = pixA fs wn i k ∧ Has wr w.heap.size 118 4 (.slice A1 xs.length cap1) xs.length (xs.flatMap bxC) ∧ Row wr w.heap.size 42 [.int .i64 wn, .int .i64 hn, .slice A fs.length cap] ∧ Below w.heap.size w wr) (fun _ r _ => wn - (intOf r).toNat)
        case atStart => exact ⟨0, A1, cap1, xs, Nat.zero_le _, rfl, rfl, Hxs.out, O.out, R.out, E.out⟩
        case round =>
          obtain ⟨k, A2, cap2, ys, hk, rfl, rfl, hys, hor, hrr, hbw⟩ := hrel
          clear c0 c1 c2
          clear O E R
          have O := Lib.hid hor
          have E := Lib.hid hbw
          have R := Lib.hid hrr
          have hzr : w.heap.size ≤ wr.heap.size := hbw.size
          have hyl : ys.length ≤ 156 := by rw [hys]; exact pixA_bd _ hw (by omega) (by omega)
          have Hys := Lib.hid hys
          clear hor hbw hrr hys
          by_cases hlk : k < wn
          · have hlkI : decide ((k : Int) < (wn : Int)) = true := by simp; omega
            have Hn : Hid (ys ++ [pixL fs (k : Nat) (i : Nat)] = pixA fs wn i (k + 1)) := Lib.hid (by rw [Hys.out, pixA_succ])
            have KC := Lib.hid (fun Wd (hW : Fls Wd A fs) => c_spixel wn hn A cap fs k i Wd hW Hv.out hl (inB_iff.2 (by omega)) (inB_iff.2 (by omega)))
            generalize pixL fs (k : Nat) (i : Nat) = q at *
            have c0 := R.out.cell_of (i := 0) rfl
            have c1 := R.out.cell_of (i := 1) rfl
            have c2 := R.out.cell_of (i := 2) rfl
            go_wp2_with fail
            clear c0 c1 c2
            refine (KC.out _ (PW.out.ext flR_stab E.out)).mono ?_
            rintro e w2 ⟨rfl, hb⟩
            replace E := Lib.hid (Ext.trans E.out hb)
            replace O := Lib.hid (own_ext O.out hb)
            replace R := Lib.hid (R.out.ext hb)
            have lR := R.out.lt
            clear hb
            have c0 := R.out.cell_of (i := 0) rfl
            have c1 := R.out.cell_of (i := 1) rfl
            have c2 := R.out.cell_of (i := 2) rfl
            go_wp2_with (at_builtin; refine wpList_app (base := w.heap.size) ei_co rfl (.tmp 22) (.tmp 27) rfl rfl (own_ext O.out (ext_alloc _ _)) rfl (src_new _ _ [_, _, _, _] (m := 1) rfl (by intro u hu; simp only [List.mem_cons, List.not_mem_nil, or_false] at hu; rcases hu with rfl | rfl | rfl | rfl <;> rfl)) (by omega) (by simp; omega) ?_; intro ve w3 hown hg hat; refine stop_in ?_)
            refine stop_out ?_
            obtain ⟨A3, cap3, hve⟩ := own_form hown
            clear c0 c1 c2
            replace E := Lib.hid (Below.grown (Ext.trans E.out (ext_alloc _ _)) hg (by simp; omega) (fun k hk => by have := (O.out.lt k hk).1; omega))
            replace R := Lib.hid ((R.out.ext (ext_alloc _ _)).grownNe (own_ext O.out (ext_alloc _ _)) (by decide) hg)
            have lR := R.out.lt
            have heq : ys ++ [q] = (ys ++ [q]) := rfl
            replace O : Hid (Has w3 w.heap.size 118 4 (.slice A3 ((ys ++ [q])).length cap3) ((ys ++ [q])).length (((ys ++ [q])).flatMap bxC)) := Lib.hid (by
              have q := hown
              rw [hve] at q
              rw [← heq, List.flatMap_append, List.length_append]
              exact q)
            have hvf : ve = .slice A3 ((ys ++ [q])).length cap3 := by rw [hve, ← heq, List.length_append]; rfl
            clear hve
            clear hown hg hat heq
            subst hvf
            have c0 := R.out.cell_of (i := 0) rfl
            have c1 := R.out.cell_of (i := 1) rfl
            have c2 := R.out.cell_of (i := 2) rfl
            go_wp2
            go_roundw
            case rel => exact ⟨k + 1, A3, cap3, _, by omega, by go_num, rfl, Hn.out, O.out, R.out, E.out⟩
            case measure => simp [intOf]; omega
          · obtain rfl : k = wn := by omega
            have hlkI : decide ((k : Int) < (k : Int)) = false := by simp
            have Hf : Hid (ys = pixA fs k (i + 1) 0) := Lib.hid (by rw [Hys.out, pixA_row])
            have c0 := R.out.cell_of (i := 0) rfl
            have c1 := R.out.cell_of (i := 1) rfl
            have c2 := R.out.cell_of (i := 2) rfl
            go_wp2
            go_roundw
            case rel => exact ⟨i + 1, A2, cap2, ys, by omega, by go_num, rfl, Hf.out, O.out, R.out, E.out⟩
            case measure => simp [intOf]; omega
      · obtain rfl : i = hn := by omega
        have hltI : decide ((i : Int) < (i : Int)) = false := by simp
        have c0 := R.out.cell_of (i := 0) rfl
        have c1 := R.out.cell_of (i := 1) rfl
        have c2 := R.out.cell_of (i := 2) rfl
        go_wp2
        go_ret
        obtain rfl : xs = M := by rw [Hxs.out, HD.out]
        exact ⟨A1, cap1, rfl, O.out, E.out⟩
end Go.Proofs.YtagmnbphbakikaaGreat
