/-
  Several texts in one: RedrawL, Redraw.
-/
import Derived.Test.YtagmnbphbakikaaGreatFillC
import Derived.Test.YtagmnbphbakikaaGreatMg14
import Derived.Test.YtagmnbphbakikaaGreatMg21
namespace Go.Proofs.YtagmnbphbakikaaGreat
open Go Go.RowKit Reg
attribute [local go_sem] calmAt calmUpon
/-- The picture of a scene in which a fill was replaced, of the tiles that changed. -/
def rdR (W H : Int) (fs : List FlD) (at_ : Int) (f : FlD) : (Int × Int × List Bx4) × Bool :=
  if scB W H fs && (inB at_ 0 ((fs.length : Int) - 1) && flB f) then ((W, H, tpixs W H (fs.set at_.toNat f) (damL W H fs at_ f) (drawL W H fs)), true) else noFr
theorem drawL_len {W H : Int} (fs : List FlD) (hW : 1 ≤ W ∧ W ≤ 12) (hH : 1 ≤ H ∧ H ≤ 12) : ((drawL W H fs).length : Int) = W * H := by
  obtain ⟨a, rfl⟩ : ∃ a : Nat, W = a := ⟨W.toNat, by omega⟩
  obtain ⟨b, rfl⟩ : ∃ b : Nat, H = b := ⟨H.toNat, by omega⟩
  unfold drawL
  rw [pixA_len, Int.toNat_natCast, Int.toNat_natCast, Nat.add_zero, Int.natCast_mul, Int.mul_comm]
theorem rdR_len (W H : Int) (fs : List FlD) (at_ : Int) (f : FlD) : (rdR W H fs at_ f).1.2.2.length ≤ 1048576 := by
  unfold rdR noFr
  split
  · rename_i h
    simp only [Bool.and_eq_true] at h
    have hs := scB_sz h.1
    have := mul_12 hs.1 hs.2
    have h2 := drawL_len fs hs.1 hs.2
    rw [tpixs_len]
    omega
  · simp
theorem scB_set {W H : Int} {fs : List FlD} (h : scB W H fs = true) (k : Nat) {f : FlD} (hf : flB f = true) : scB W H (fs.set k f) = true := by
  unfold scB at *
  simp only [Bool.and_eq_true, List.all_eq_true, decide_eq_true_eq] at *
  refine ⟨⟨h.1.1, by rw [List.length_set]; exact h.1.2⟩, fun x hx => ?_⟩
  rcases List.mem_or_eq_of_mem_set hx with hx | rfl
  · exact h.2 x hx
  · exact hf
theorem tilK_ok {b : Bx4} {W H : Int} (hW : 1 ≤ W ∧ W ≤ 12) (hH : 1 ≤ H ∧ H ≤ 12) {k : Nat} (hk : (k : Int) ≤ tilesL W H) : ∀ t ∈ tilK b W H k, tlB W H t = true := by
  intro t ht
  unfold tilK at ht
  obtain ⟨a, ha, rfl⟩ := List.mem_map.1 ht
  have := List.mem_range.1 (List.mem_filter.1 ha).1
  exact tl_ok hW hH (by omega)
theorem damL_ok {W H : Int} (fs : List FlD) (at_ : Int) (f : FlD) (hW : 1 ≤ W ∧ W ≤ 12) (hH : 1 ≤ H ∧ H ≤ 12) : ∀ t ∈ damL W H fs at_ f, tlB W H t = true :=
  tilK_ok hW hH (by have := tiles_9 hW hH; omega)
theorem damL_len {W H : Int} (fs : List FlD) (at_ : Int) (f : FlD) (hW : 1 ≤ W ∧ W ≤ 12) (hH : 1 ≤ H ∧ H ≤ 12) : (damL W H fs at_ f).length ≤ 9 := by
  have h9 := tiles_9 hW hH
  have := tilK_len (joinL (fbL (fs[at_.toNat]?.getD f)) (fbL f)) W H (tilesL W H).toNat
  unfold damL tilB
  omega
/-- A scene with one fill replaced, in a row of its own. -/
def RetWf (w0 w : World) (W H : Int) (fs : List FlD) (k : Nat) (f : FlD) (e : Ending) (w' : World) : Prop := ∃ A' cap' cells, e = .returned (.agg #[.int .i64 W, .int .i64 H, .slice A' fs.length cap']) ∧ Has w' w.heap.size 50 7 (.slice A' fs.length cap') fs.length cells ∧ (∀ Wd B, Below w0.heap.size w0 Wd → Has Wd B 50 7 (.slice A' fs.length cap') fs.length cells → Fls Wd A' (fs.set k f)) ∧ Below w.heap.size w w'
set_option maxRecDepth 100000 in
set_option maxHeartbeats 8000000 in
theorem c_withFill (W H : Int) (A : Option Addr) (cap : Nat) (fs : List FlD) (k : Nat) (A1 : Option Addr) (c1 : Nat) (f : FlD) (A2 : Option Addr) (c2 : Nat) (w0 w : World) (h : Fls w0 A fs) (hv : flR w0 f (flC A1 f.1.length c1 f.2.1 f.2.2.1 f.2.2.2.1 A2 f.2.2.2.2.length c2)) (hx : Below w0.heap.size w0 w) (hk : k < fs.length) (hl : fs.length ≤ 4) :
    Calls Tryz.prog 31 #[.agg #[.int .i64 W, .int .i64 H, .slice A fs.length cap], .int .i64 (k : Int), flV A1 f.1.length c1 f.2.1 f.2.2.1 f.2.2.2.1 A2 f.2.2.2.2.length c2] w (RetWf w0 w W H fs k f) := by
  obtain ⟨uss, hC, hS⟩ := fls_src h
  obtain ⟨vs, q, ⟨fx, fy⟩, ⟨tx, ty⟩, ss⟩ := f
  dsimp only at hv
  have HC2 := Lib.hid (hC.set k hv)
  have H7 := Lib.hid hC.all
  have HS := Lib.hid (hS.ext hx)
  have E := Lib.hid (Below.refl w.heap.size w)
  have hkI : (k : Int) < (fs.length : Int) := by omega
  have hk0 : (0 : Int) ≤ (k : Int) := by omega
  clear h hv hC hS hx
  go_enter Tryz.func31, Tryz.ntmps31
  go_wp2_with (at_builtin; refine stop_in ?_)
  refine stop_out ?_
  refine gen_list ?_
  intro w2 hW
  obtain ⟨hb, hR3, hR5, hR6, hRO⟩ := new4 hW
  clear hW
  replace E := Lib.hid (Ext.trans E.out hb)
  clear hb
  have R3 := Lib.hid hR3
  have lR3 := R3.out.lt
  clear hR3
  have R5 := Lib.hid hR5
  have lR5 := R5.out.lt
  clear hR5
  have R6 := Lib.hid hR6
  have lR6 := R6.out.lt
  clear hR6
  have RO := Lib.hid hRO
  have lRO := RO.out.lt
  clear hRO
  have hzE : w.heap.size ≤ w.heap.size + 1 + 1 + 1 := by omega
  have OR := own_of_row (n := 0) (B := w.heap.size + 1 + 1 + 1) (sz := 7) RO.out (Nat.le_refl _) rfl (by decide)
  refine wpList_app (base := w.heap.size + 1 + 1 + 1) ei_fl rfl (.tmp 8) (.tmp 10) rfl rfl OR rfl (HS.out.ext E.out) (by omega) (by omega) ?_
  intro ve w3 hown hg hat
  obtain ⟨A8, cap8, hve⟩ := own_form hown
  have O : Hid (Has w3 (w.heap.size + 1 + 1 + 1) 50 7 (.slice A8 fs.length cap8) fs.length uss.flatten) := Lib.hid (by
    have h := hown
    rw [hve] at h
    simpa using h)
  have hve' : ve = .slice A8 fs.length cap8 := by rw [hve]; simp
  have hg' : w2.grownBy w3 (some (w.heap.size + 1 + 1 + 1)) := hg
  replace R3 := Lib.hid (R3.out.keptG hg' (by omega))
  replace R5 := Lib.hid (R5.out.keptG hg' (by omega))
  replace R6 := Lib.hid (R6.out.keptG hg' (by omega))
  have E3 := Lib.hid (own_below E.out (OR.rebase hzE) hg E.out.size)
  clear hown hg hg' hat hve OR RO lRO E
  have E := E3
  clear E3
  subst hve'
  obtain ⟨g, rfl, hBg, hgw⟩ := own_at O.out (by omega)
  have hPF := Lib.hid (O.out.putF H7.out k (.slice A1 vs.length c1) (.int .i64 q) (.int .i64 fx) (.int .i64 fy) (.int .i64 tx) (.int .i64 ty) (.slice A2 ss.length c2))
  obtain ⟨⟨o0, e0⟩, ⟨o1, e1⟩, ⟨o2, e2⟩, ⟨o3, e3⟩, ⟨o4, e4⟩, ⟨o5, e5⟩, ⟨o6, e6⟩⟩ := O.out.atF hk
  have f0 := O.out.frozenAt (k * 7)
  have f1 := O.out.frozenAt (k * 7 + 1)
  have f2 := O.out.frozenAt (k * 7 + 2)
  have f3 := O.out.frozenAt (k * 7 + 3)
  have f4 := O.out.frozenAt (k * 7 + 4)
  have f5 := O.out.frozenAt (k * 7 + 5)
  have f6 := O.out.frozenAt (k * 7 + 6)
  have n1 : ¬ g = w.heap.size := by omega
  have n2 : ¬ g = w.heap.size + 1 + 1 := by omega
  have n3 : ¬ w.heap.size = g := by omega
  have n4 : ¬ w.heap.size + 1 + 1 = g := by omega
  have s0 := R3.out.cell_of (i := 0) rfl
  have s1 := R3.out.cell_of (i := 1) rfl
  have s2 := R3.out.cell_of (i := 2) rfl
  have y0 := R5.out.cell_of (i := 0) rfl
  have y1 := R5.out.cell_of (i := 1) rfl
  have y2 := R5.out.cell_of (i := 2) rfl
  have y3 := R5.out.cell_of (i := 3) rfl
  have y4 := R5.out.cell_of (i := 4) rfl
  have y5 := R5.out.cell_of (i := 5) rfl
  have y6 := R5.out.cell_of (i := 6) rfl
  have r0 := R6.out.cell_of (i := 0) rfl
  have zr0 := R6.out.frozen 0
  have r1 := R6.out.cell_of (i := 1) rfl
  have zr1 := R6.out.frozen 1
  have r2 := R6.out.cell_of (i := 2) rfl
  have zr2 := R6.out.frozen 2
  go_wp2
  clear s0 s1 s2 y0 y1 y2 y3 y4 y5 y6 r0 zr0 r1 zr1 r2 zr2
  refine gen_post (fun Wd hW => ?_)
  obtain ⟨Wm, hWm⟩ : ∃ Wm, setF w3 g k (.slice A1 vs.length c1) (.int .i64 q) (.int .i64 fx) (.int .i64 fy) (.int .i64 tx) (.int .i64 ty) (.slice A2 ss.length c2) = Wm := ⟨_, rfl⟩
  have hPF := hPF.out
  rw [hWm] at hPF
  unfold setF at hWm
  rw [hWm] at hW
  have D := R6.out.keptG hPF.2 (by omega)
  have hg2 : Wm.grownBy Wd (some (w.heap.size + 1 + 1)) := by rw [hW]; exact sets3 Wm _ 0 _ _ _
  have D2 : Row Wd (w.heap.size + 1 + 1) 42 [.int .i64 W, .int .i64 H, .slice (some ⟨g, 0, none⟩) fs.length cap8] := by
    rw [hW]; exact ((D.set_ 0 _).set_ 1 _).set_ 2 _
  have y0 := D2.cell_of (i := 0) rfl
  have y1 := D2.cell_of (i := 1) rfl
  have y2 := D2.cell_of (i := 2) rfl
  have Em := below_set E.out hPF.2 (by omega) E.out.size
  have O9 := hPF.1.keptB D (by decide) hg2
  have E9 := below_set Em hg2 (by omega) Em.size
  exact bodyPost_ret (v := .agg #[.int .i64 W, .int .i64 H, .slice (some ⟨g, 0, none⟩) fs.length cap8]) (by simp [results, Tryz.results31, go_sem, y0, y1, y2]) rfl
    ⟨_, _, _, rfl, O9.rebase hzE, fun Wd' B hb ho => cells7_fls (HC2.out.ext hb) (by rw [List.length_set]) ho, E9⟩
end Go.Proofs.YtagmnbphbakikaaGreat
namespace Go.Proofs.YtagmnbphbakikaaGreat
open Go Go.RowKit Reg
attribute [local go_sem] calmAt calmUpon
set_option maxRecDepth 100000 in
set_option maxHeartbeats 16000000 in
theorem c_sRedrawFill (W H : Int) (A : Option Addr) (cap : Nat) (fs : List FlD) (at_ : Int) (A1 : Option Addr) (c1 : Nat) (f : FlD) (A2 : Option Addr) (c2 : Nat) (w : World) (h : Fls w A fs) (hsA : SlOk A fs.length cap) (hf : VbK w A1 f.1) (s1 : SlOk A1 f.1.length c1) (hs : Sts w A2 f.2.2.2.2) (s2 : SlOk A2 f.2.2.2.2.length c2) (hsm : flsSm fs) (hsf : flSm f) :
    Calls Tryz.prog 7 #[.agg #[.int .i64 W, .int .i64 H, .slice A fs.length cap], .int .i64 at_, flV A1 f.1.length c1 f.2.1 f.2.2.1 f.2.2.2.1 A2 f.2.2.2.2.length c2] w fun e w' => RetFr w (rdR W H fs at_ f) e w' := by
  obtain ⟨us, r, ⟨fx, fy⟩, ⟨tx, ty⟩, ts⟩ := f
  obtain ⟨d1, hd1⟩ : ∃ d, scB W H fs = d := ⟨_, rfl⟩
  obtain ⟨d2, hd2⟩ : ∃ d, inB at_ 0 ((fs.length : Int) - 1) = d := ⟨_, rfl⟩
  obtain ⟨d3, hd3⟩ : ∃ d, flB (us, r, (fx, fy), (tx, ty), ts) = d := ⟨_, rfl⟩
  obtain ⟨M, hM⟩ : ∃ M, rdR W H fs at_ (us, r, (fx, fy), (tx, ty), ts) = M := ⟨_, rfl⟩
  have HR : Hid (M = if d1 && (d2 && d3) then ((W, H, tpixs W H (fs.set at_.toNat (us, r, (fx, fy), (tx, ty), ts)) (damL W H fs at_ (us, r, (fx, fy), (tx, ty), ts)) (drawL W H fs)), true) else noFr) := Lib.hid (by rw [← hM]; unfold rdR; rw [hd1, hd2, hd3])
  rw [hM]
  have hl := hsm.1
  have HV : Hid (flR w (us, r, (fx, fy), (tx, ty), ts) (flC A1 us.length c1 r (fx, fy) (tx, ty) A2 ts.length c2)) := Lib.hid ⟨A1, c1, A2, c2, rfl, hf, s1, hs, s2⟩
  dsimp only at hf hs hsf s1 s2
  have PW := Lib.hid h
  have HF := Lib.hid hf
  have HS := Lib.hid hs
  have Hsm := Lib.hid hsm
  have Hsf := Lib.hid hsf
  have H1 := Lib.hid hd1
  have H2 := Lib.hid hd2
  have H3 := Lib.hid hd3
  have E := Lib.hid (Below.refl w.heap.size w)
  have g1 : IntKind.i64.wrap ((fs.length : Int) - 1) = (fs.length : Int) - 1 := IntWalk.i64_in _ (by omega)
  clear h hf hs s1 s2 hsA hsm hsf hd1 hd2 hd3 hM
  go_enter Tryz.func7, Tryz.ntmps7
  go_wp2_with fail
  first | refine gen_calls ?_ | refine gen_code ?_ | refine gen_list ?_
  intro w0 hW
  obtain ⟨hb, hR0, hR1, hR6⟩ := new3 hW
  clear hW
  replace E := Lib.hid (Ext.trans E.out hb)
  replace HF := Lib.hid (HF.out.ext verbK_stab hb)
  replace HS := Lib.hid (HS.out.ext stR_stab hb)
  clear hb
  have R0 := Lib.hid hR0
  have lR0 := R0.out.lt
  clear hR0
  have R1 := Lib.hid hR1
  have lR1 := R1.out.lt
  clear hR1
  have R6 := Lib.hid hR6
  have lR6 := R6.out.lt
  clear hR6
  have k0 := R0.out.cell_of (i := 0) rfl
  have k1 := R0.out.cell_of (i := 1) rfl
  have k2 := R0.out.cell_of (i := 2) rfl
  have y0 := R1.out.cell_of (i := 0) rfl
  have y1 := R1.out.cell_of (i := 1) rfl
  have y2 := R1.out.cell_of (i := 2) rfl
  have y3 := R1.out.cell_of (i := 3) rfl
  have y4 := R1.out.cell_of (i := 4) rfl
  have y5 := R1.out.cell_of (i := 5) rfl
  have y6 := R1.out.cell_of (i := 6) rfl
  have r0 := R6.out.cell_of (i := 0) rfl
  have zr0 := R6.out.frozen 0
  have r1 := R6.out.cell_of (i := 1) rfl
  have zr1 := R6.out.frozen 1
  have r2 := R6.out.cell_of (i := 2) rfl
  have zr2 := R6.out.frozen 2
  go_wp2_with fail
  clear k0 k1 k2 y0 y1 y2 y3 y4 y5 y6 r0 zr0 r1 zr1 r2 zr2
  refine (c_sValidScene W H A cap fs _ (PW.out.ext flR_stab E.out) Hsm.out).mono ?_
  rw [H1.out]
  rintro e w1 ⟨rfl, hb⟩
  replace E := Lib.hid (Ext.trans E.out hb)
  replace HF := Lib.hid (HF.out.ext verbK_stab hb)
  replace HS := Lib.hid (HS.out.ext stR_stab hb)
  replace R0 := Lib.hid (R0.out.ext hb)
  have lR0 := R0.out.lt
  replace R1 := Lib.hid (R1.out.ext hb)
  have lR1 := R1.out.lt
  replace R6 := Lib.hid (R6.out.ext hb)
  have lR6 := R6.out.lt
  clear hb
  have k0 := R0.out.cell_of (i := 0) rfl
  have k1 := R0.out.cell_of (i := 1) rfl
  have k2 := R0.out.cell_of (i := 2) rfl
  have y0 := R1.out.cell_of (i := 0) rfl
  have y1 := R1.out.cell_of (i := 1) rfl
  have y2 := R1.out.cell_of (i := 2) rfl
  have y3 := R1.out.cell_of (i := 3) rfl
  have y4 := R1.out.cell_of (i := 4) rfl
  have y5 := R1.out.cell_of (i := 5) rfl
  have y6 := R1.out.cell_of (i := 6) rfl
  have r0 := R6.out.cell_of (i := 0) rfl
  have zr0 := R6.out.frozen 0
  have r1 := R6.out.cell_of (i := 1) rfl
  have zr1 := R6.out.frozen 1
  have r2 := R6.out.cell_of (i := 2) rfl
  have zr2 := R6.out.frozen 2
  cases d1
  · have hz : M = noFr := by rw [HR.out]; simp
    subst hz
    go_wp2
    exact bodyPost_ret (v := .tuple #[frV 0 0 none 0 0, .bool false]) (by simp [results, Tryz.results7, go_sem, r0, r1, r2]) rfl (RetFr.no (set3_below E.out (by omega) _ _ _))
  · go_wp2_with fail
    refine (c_inRange at_ 0 ((fs.length : Int) - 1) _).mono ?_
    rw [H2.out]
    rintro e w' ⟨rfl, rfl⟩
    cases d2
    · have hz : M = noFr := by rw [HR.out]; simp
      subst hz
      go_wp2
      exact bodyPost_ret (v := .tuple #[frV 0 0 none 0 0, .bool false]) (by simp [results, Tryz.results7, go_sem, r0, r1, r2]) rfl (RetFr.no (set3_below E.out (by omega) _ _ _))
    · go_wp2_with fail
      clear k0 k1 k2 y0 y1 y2 y3 y4 y5 y6 r0 zr0 r1 zr1 r2 zr2
      refine (c_sFillValid A1 c1 (us, r, (fx, fy), (tx, ty), ts) A2 c2 _ HF.out HS.out Hsf.out).mono ?_
      rw [H3.out]
      rintro e w2 ⟨rfl, hb⟩
      replace E := Lib.hid (Ext.trans E.out hb)
      replace HF := Lib.hid (HF.out.ext verbK_stab hb)
      replace HS := Lib.hid (HS.out.ext stR_stab hb)
      replace R0 := Lib.hid (R0.out.ext hb)
      have lR0 := R0.out.lt
      replace R1 := Lib.hid (R1.out.ext hb)
      have lR1 := R1.out.lt
      replace R6 := Lib.hid (R6.out.ext hb)
      have lR6 := R6.out.lt
      clear hb
      have k0 := R0.out.cell_of (i := 0) rfl
      have k1 := R0.out.cell_of (i := 1) rfl
      have k2 := R0.out.cell_of (i := 2) rfl
      have y0 := R1.out.cell_of (i := 0) rfl
      have y1 := R1.out.cell_of (i := 1) rfl
      have y2 := R1.out.cell_of (i := 2) rfl
      have y3 := R1.out.cell_of (i := 3) rfl
      have y4 := R1.out.cell_of (i := 4) rfl
      have y5 := R1.out.cell_of (i := 5) rfl
      have y6 := R1.out.cell_of (i := 6) rfl
      have r0 := R6.out.cell_of (i := 0) rfl
      have zr0 := R6.out.frozen 0
      have r1 := R6.out.cell_of (i := 1) rfl
      have zr1 := R6.out.frozen 1
      have r2 := R6.out.cell_of (i := 2) rfl
      have zr2 := R6.out.frozen 2
      cases d3
      · have hz : M = noFr := by rw [HR.out]; simp
        subst hz
        go_wp2
        exact bodyPost_ret (v := .tuple #[frV 0 0 none 0 0, .bool false]) (by simp [results, Tryz.results7, go_sem, r0, r1, r2]) rfl (RetFr.no (set3_below E.out (by omega) _ _ _))
      · have hz2 : w.heap.size ≤ w2.heap.size := E.out.size
        have hz26 : w.heap.size + 1 + 1 < w2.heap.size := R6.out.lt
        obtain ⟨hW, hH⟩ := scB_sz H1.out
        have HL := Lib.hid (scB_le H1.out)
        have hat := inB_iff.1 H2.out
        obtain ⟨k, rfl⟩ : ∃ k : Nat, at_ = k := ⟨at_.toNat, by omega⟩
        have hk : k < fs.length := by omega
        have hkI : (k : Int) < (fs.length : Int) := by omega
        have hk0 : (0 : Int) ≤ (k : Int) := by omega
        have hl4 : fs.length ≤ 4 := HL.out
        rw [Int.toNat_natCast] at HR
        have HDok := Lib.hid (damL_ok fs (k : Int) (us, r, (fx, fy), (tx, ty), ts) hW hH)
        have hdl := damL_len fs (k : Int) (us, r, (fx, fy), (tx, ty), ts) hW hH
        have hSW := drawL_len fs hW hH
        have hS144 := mul_12 hW hH
        obtain ⟨FS, hFS⟩ : ∃ FS, fs.set k (us, r, (fx, fy), (tx, ty), ts) = FS := ⟨_, rfl⟩
        have hFl : FS.length = fs.length := by rw [← hFS, List.length_set]
        have HFl := Lib.hid hFl
        have HOK : Hid (okFs FS) := Lib.hid (by rw [← hFS]; exact scB_all (scB_set H1.out k H3.out))
        rw [hFS] at HR
        obtain ⟨S, hS⟩ : ∃ S, drawL W H fs = S := ⟨_, rfl⟩
        obtain ⟨TS, hTS⟩ : ∃ TS, damL W H fs (k : Int) (us, r, (fx, fy), (tx, ty), ts) = TS := ⟨_, rfl⟩
        rw [hTS] at hdl HDok HR
        rw [hS] at hSW HR
        have HSW := Lib.hid hSW
        have HS0 := Lib.hid hS
        have HTS := Lib.hid hTS
        have hSl : S.length ≤ 144 := by omega
        have HFS := Lib.hid hFS
        clear hFl hSW hS144 hS hTS hFS hat
        have Hz : Hid (M = ((W, H, tpixs W H FS TS S), true)) := Lib.hid (by rw [HR.out]; rfl)
        have KD : Hid (∀ Wd, Fls Wd A fs → Calls Tryz.prog 30 #[.agg #[.int .i64 W, .int .i64 H, .slice A fs.length cap]] Wd fun e w' => RetCo Wd S e w') := Lib.hid (fun Wd h1 => by
          have h := c_sDrawScene W H A cap fs Wd h1 Hsm.out
          unfold drawR at h
          rw [H1.out, if_pos rfl, HS0.out] at h
          exact h)
        clear HR g1
        clear k0 k1 k2 y0 y1 y2 y3 y4 y5 y6 r0 zr0 r1 zr1 r2 zr2
        have k0 := R0.out.cell_of (i := 0) rfl
        have k1 := R0.out.cell_of (i := 1) rfl
        have k2 := R0.out.cell_of (i := 2) rfl
        go_wp2_with fail
        refine wp_region_invJ [0,1,2,3,4] [(5, some 35), (6, some 36), (7, some 8), (8, none)] (by kernel_rfl) (by kernel_rfl)
          (FrJ 5 6 7 8 w2.heap.size W H S.length (S.flatMap bxC)) (fun _ _ _ _ h hx => h.ext hx) ?_ ?_
        · intro vals w'
          exact FrJ.start (by decide) (by decide) (by decide) (by decide)
        iterate 5 ((refine calm_yes rfl rfl (fun w' hC => (by have k0 := hC.cell k0; have k1 := hC.cell k1; have k2 := hC.cell k2; go_simp; rfl)) (fun K hK => ?_); go_simp; refine hK _ ?_; clear hK K))
        refine calm_nil ?_
        clear k0 k1 k2
        refine ⟨List.forall_mem_cons.2 ⟨?_, List.forall_mem_cons.2 ⟨?_, List.forall_mem_cons.2 ⟨?_, List.forall_mem_cons.2 ⟨?_, by simp⟩⟩⟩⟩, ?_⟩
        · refine step_op rfl (fun vals => rfl) (fun listed vals w' hC hl' hn hJ K hK => ?_)
          simp only [canon, List.foldl_cons, List.foldl_nil]
          go_simp
          refine (KD.out w' (PW.out.ext flR_stab (Ext.trans E.out (Below.trans (Below.refl _ w2).drew hC)))).mono ?_
          rintro e w'' ⟨A', cap', rfl, ho, hb⟩
          exact hK _ (.slice A' S.length cap') _ rfl (Cls.ext hC hb) (hJ.called hb (by decide) hl' A' _ (ho.rebase hC.size))
        · refine step_op rfl (fun vals => rfl) (fun listed vals w' hC hl' hn hJ K hK => ?_)
          have h6 := hn 5 (by kernel_rfl)
          obtain ⟨A6, cap6, k6, _⟩ := hJ.call h6
          simp only [canon, List.foldl_cons, List.foldl_nil]
          rw [k6]
          go_simp
          exact hK _ (.agg #[.int .i64 W, .int .i64 H, .slice A6 S.length cap6]) _ (by simp only [canon, List.foldl_cons, List.foldl_nil, k6]; rfl) hC (hJ.built (by decide) h6 _ (by rw [k6]))
        · refine step_op rfl (fun vals => rfl) (fun listed vals w' hC hl' hn hJ K hK => ?_)
          simp only [canon, List.foldl_cons, List.foldl_nil]
          go_simp
          exact hK _ (.pointer (some ⟨w'.heap.size, 0, none⟩)) _ rfl (Below.alloc hC hC.size _) (hJ.allocd (by decide) hl' hC.size)
        · refine step_op rfl (fun vals => rfl) (fun listed vals w' hC hl' hn hJ K hK => ?_)
          have h6 := hn 5 (by kernel_rfl)
          have h7 := hn 6 (by kernel_rfl)
          have h8 := hn 7 (by kernel_rfl)
          obtain ⟨g, cs3, k1, k2, k3, k5, _⟩ := hJ.mem h8
          obtain ⟨_, k4⟩ := hJ.pic h7
          match cs3, k5 with
          | [u0, u1, u2], _ =>
          have e0 := k3.cell_of (i := 0) rfl
          have z0 := k3.frozen 0
          have r1 := k3.set_ 0 (.int .i64 W)
          have e1 := r1.cell_of (i := 1) rfl
          have z1 := r1.frozen 1
          have r2 := r1.set_ 1 (.int .i64 H)
          have e2 := r2.cell_of (i := 2) rfl
          have z2 := r2.frozen 2
          have b3 := set3_below hC (show w2.drew.heap.size ≤ g from k2) (.int .i64 W) (.int .i64 H) (vals 5)
          have hst := hJ.stored (by decide) h6 h8 k1 h7 (.bool false) k3 rfl
          obtain ⟨A6, cap6, k6, _⟩ := hJ.call h6
          simp only [canon, List.foldl_cons, List.foldl_nil]
          rw [k1, k4, k6]
          rw [k6] at hst b3
          go_simp
          exact hK _ (.bool false) _ (by simp only [canon, List.foldl_cons, List.foldl_nil, k1, k4, k6]; rfl) b3 hst
        · intro listed vals wp hx hall hJ K hK
          have h6 := hall 5 (by decide)
          have h7 := hall 6 (by decide)
          have h8 := hall 7 (by decide)
          have h9 := hall 8 (by decide)
          obtain ⟨A6, cap6, k6, ho⟩ := hJ.call h6
          obtain ⟨gf, cs3, k1, k2, k3, _, k7⟩ := hJ.mem h8
          obtain ⟨_, k4⟩ := hJ.pic h7
          obtain rfl := k7 h9
          rw [k6] at k3
          simp only [canon, List.foldl_cons, List.foldl_nil]
          rw [k1, k4, k6]
          go_simp
          refine hK _ ?_
          clear hK K hJ hall k1 k4 k6 h6 h7 h8 h9 k7
          have O := Lib.hid (ho.rebase hz2)
          have RB := Lib.hid k3
          clear ho k3
          replace E := Lib.hid (Ext.trans E.out hx)
          replace HF := Lib.hid (HF.out.ext verbK_stab hx)
          replace HS := Lib.hid (HS.out.ext stR_stab hx)
          replace R0 := Lib.hid (R0.out.ext hx)
          have lR0 := R0.out.lt
          replace R1 := Lib.hid (R1.out.ext hx)
          have lR1 := R1.out.lt
          replace R6 := Lib.hid (R6.out.ext hx)
          have lR6 := R6.out.lt
          clear hx
          have k0 := R0.out.cell_of (i := 0) rfl
          have k1 := R0.out.cell_of (i := 1) rfl
          have k2 := R0.out.cell_of (i := 2) rfl
          clear k0 k1 k2
          have k0 := R0.out.cell_of (i := 0) rfl
          have k1 := R0.out.cell_of (i := 1) rfl
          have k2 := R0.out.cell_of (i := 2) rfl
          have y0 := R1.out.cell_of (i := 0) rfl
          have y1 := R1.out.cell_of (i := 1) rfl
          have y2 := R1.out.cell_of (i := 2) rfl
          have y3 := R1.out.cell_of (i := 3) rfl
          have y4 := R1.out.cell_of (i := 4) rfl
          have y5 := R1.out.cell_of (i := 5) rfl
          have y6 := R1.out.cell_of (i := 6) rfl
          go_wp2_with fail
          clear k0 k1 k2 y0 y1 y2 y3 y4 y5 y6
          refine (c_withFill W H A cap fs k A1 c1 (us, r, (fx, fy), (tx, ty), ts) A2 c2 w _ PW.out HV.out E.out hk hl4).mono ?_
          rintro e w4 ⟨A7, cap7, cells, rfl, ho7, hF7, hb⟩
          rw [HFS.out] at hF7
          have KF := Lib.hid (fun Wd h1 h2 => hF7 Wd w.heap.size h1 h2)
          have O7 := Lib.hid (ho7.rebase E.out.size)
          clear hF7 ho7
          replace E := Lib.hid (Ext.trans E.out hb)
          replace HF := Lib.hid (HF.out.ext verbK_stab hb)
          replace HS := Lib.hid (HS.out.ext stR_stab hb)
          replace R0 := Lib.hid (R0.out.ext hb)
          have lR0 := R0.out.lt
          replace R1 := Lib.hid (R1.out.ext hb)
          have lR1 := R1.out.lt
          replace R6 := Lib.hid (R6.out.ext hb)
          have lR6 := R6.out.lt
          replace O := Lib.hid (own_ext O.out hb)
          replace RB := Lib.hid (RB.out.ext hb)
          have lRB := RB.out.lt
          clear hb
          have k0 := R0.out.cell_of (i := 0) rfl
          have k1 := R0.out.cell_of (i := 1) rfl
          have k2 := R0.out.cell_of (i := 2) rfl
          have y0 := R1.out.cell_of (i := 0) rfl
          have y1 := R1.out.cell_of (i := 1) rfl
          have y2 := R1.out.cell_of (i := 2) rfl
          have y3 := R1.out.cell_of (i := 3) rfl
          have y4 := R1.out.cell_of (i := 4) rfl
          have y5 := R1.out.cell_of (i := 5) rfl
          have y6 := R1.out.cell_of (i := 6) rfl
          have hg4 : gf < w4.heap.size := RB.out.lt
          clear k0 k1 k2 y0 y1 y2 y3 y4 y5 y6
          have k0 := R0.out.cell_of (i := 0) rfl
          have k1 := R0.out.cell_of (i := 1) rfl
          have k2 := R0.out.cell_of (i := 2) rfl
          have y0 := R1.out.cell_of (i := 0) rfl
          have y1 := R1.out.cell_of (i := 1) rfl
          have y2 := R1.out.cell_of (i := 2) rfl
          have y3 := R1.out.cell_of (i := 3) rfl
          have y4 := R1.out.cell_of (i := 4) rfl
          have y5 := R1.out.cell_of (i := 5) rfl
          have y6 := R1.out.cell_of (i := 6) rfl
          go_wp2_with fail
          clear k0 k1 k2 y0 y1 y2 y3 y4 y5 y6
          first | refine gen_calls ?_ | refine gen_code ?_ | refine gen_list ?_
          intro w5 hW
          obtain ⟨hb, hR9⟩ := new1 hW
          clear hW
          replace E := Lib.hid (Ext.trans E.out hb)
          replace HF := Lib.hid (HF.out.ext verbK_stab hb)
          replace HS := Lib.hid (HS.out.ext stR_stab hb)
          replace R0 := Lib.hid (R0.out.ext hb)
          have lR0 := R0.out.lt
          replace R1 := Lib.hid (R1.out.ext hb)
          have lR1 := R1.out.lt
          replace R6 := Lib.hid (R6.out.ext hb)
          have lR6 := R6.out.lt
          replace O := Lib.hid (own_ext O.out hb)
          replace RB := Lib.hid (RB.out.ext hb)
          have lRB := RB.out.lt
          replace O7 := Lib.hid (own_ext O7.out hb)
          clear hb
          have R9 := Lib.hid hR9
          have lR9 := R9.out.lt
          clear hR9
          have k0 := R0.out.cell_of (i := 0) rfl
          have k1 := R0.out.cell_of (i := 1) rfl
          have k2 := R0.out.cell_of (i := 2) rfl
          have y0 := R1.out.cell_of (i := 0) rfl
          have y1 := R1.out.cell_of (i := 1) rfl
          have y2 := R1.out.cell_of (i := 2) rfl
          have y3 := R1.out.cell_of (i := 3) rfl
          have y4 := R1.out.cell_of (i := 4) rfl
          have y5 := R1.out.cell_of (i := 5) rfl
          have y6 := R1.out.cell_of (i := 6) rfl
          clear k0 k1 k2 y0 y1 y2 y3 y4 y5 y6
          have k0 := R0.out.cell_of (i := 0) rfl
          have k1 := R0.out.cell_of (i := 1) rfl
          have k2 := R0.out.cell_of (i := 2) rfl
          have y0 := R1.out.cell_of (i := 0) rfl
          have y1 := R1.out.cell_of (i := 1) rfl
          have y2 := R1.out.cell_of (i := 2) rfl
          have y3 := R1.out.cell_of (i := 3) rfl
          have y4 := R1.out.cell_of (i := 4) rfl
          have y5 := R1.out.cell_of (i := 5) rfl
          have y6 := R1.out.cell_of (i := 6) rfl
          have hz5 : w.heap.size ≤ w5.heap.size := E.out.size
          go_wp2_with fail
          clear k0 k1 k2 y0 y1 y2 y3 y4 y5 y6
          refine (c_sdamage W H A cap fs (k : Int) A1 c1 (us, r, (fx, fy), (tx, ty), ts) A2 c2 _ (PW.out.ext flR_stab E.out) HF.out (fun x hx => (scB_all H1.out x hx).1) (flB_path H3.out) (by omega) hW hH hl4).mono ?_
          rw [HTS.out]
          rintro e w6 ⟨A8, cap8, rfl, ho8, hb⟩
          replace E := Lib.hid (Ext.trans E.out hb)
          replace HF := Lib.hid (HF.out.ext verbK_stab hb)
          replace HS := Lib.hid (HS.out.ext stR_stab hb)
          replace R0 := Lib.hid (R0.out.ext hb)
          have lR0 := R0.out.lt
          replace R1 := Lib.hid (R1.out.ext hb)
          have lR1 := R1.out.lt
          replace R6 := Lib.hid (R6.out.ext hb)
          have lR6 := R6.out.lt
          replace O := Lib.hid (own_ext O.out hb)
          replace RB := Lib.hid (RB.out.ext hb)
          have lRB := RB.out.lt
          replace O7 := Lib.hid (own_ext O7.out hb)
          replace R9 := Lib.hid (R9.out.ext hb)
          have lR9 := R9.out.lt
          clear hb
          have I := Lib.hid ((ho8.rebase hz5))
          have k0 := R0.out.cell_of (i := 0) rfl
          have k1 := R0.out.cell_of (i := 1) rfl
          have k2 := R0.out.cell_of (i := 2) rfl
          have y0 := R1.out.cell_of (i := 0) rfl
          have y1 := R1.out.cell_of (i := 1) rfl
          have y2 := R1.out.cell_of (i := 2) rfl
          have y3 := R1.out.cell_of (i := 3) rfl
          have y4 := R1.out.cell_of (i := 4) rfl
          have y5 := R1.out.cell_of (i := 5) rfl
          have y6 := R1.out.cell_of (i := 6) rfl
          clear ho8
          go_wp2_with fail
          clear k0 k1 k2 y0 y1 y2 y3 y4 y5 y6
          clear hz5
          go_loopw [11] (fun i wr => ∃ (j : Nat) (A' : Option Addr) (cap' : Nat) (xs : List Bx4), j ≤ TS.length ∧ i = .int .i64 j ∧ xs = tpixs W H FS (TS.take j) S ∧ xs.length = S.length ∧ Has wr w.heap.size 118 4 (.slice A' S.length cap') S.length (xs.flatMap bxC) ∧ Row wr gf 37 [.int .i64 W, .int .i64 H, .slice A' S.length cap'] ∧ Row wr w4.heap.size 42 [.int .i64 W, .int .i64 H, .slice A7 fs.length cap7] ∧ Row wr (w.heap.size + 1 + 1) 37 [.int .i64 0, .int .i64 0, .slice none 0 0] ∧ Has wr w.heap.size 50 7 (.slice A7 fs.length cap7) fs.length cells ∧ Has wr w.heap.size 3 1 (.slice A8 TS.length cap8) TS.length (TS.flatMap intC) ∧ Below w.heap.size w wr) (fun i _ => TS.length - (intOf i).toNat)
          case atStart => exact ⟨0, A6, cap6, S, Nat.zero_le _, rfl, (tpixs_zero W H FS _ TS).symm, rfl, O.out, RB.out, R9.out, R6.out, O7.out, I.out, E.out⟩
          case round =>
            obtain ⟨j, A', cap', xs, hj, rfl, hxs, hxl, hor, hrb, hr9, hr6, ho7, hoi, hbw⟩ := hrel
            clear O E RB R9 R6 O7 I
            have O := Lib.hid hor
            have E := Lib.hid hbw
            have RB := Lib.hid hrb
            have R9 := Lib.hid hr9
            have R6 := Lib.hid hr6
            have O7 := Lib.hid ho7
            have I := Lib.hid hoi
            have Hxs := Lib.hid hxs
            have Hxl := Lib.hid hxl
            have hzr : w.heap.size ≤ wr.heap.size := hbw.size
            have hne9 : gf ≠ w4.heap.size := by omega
            have hne6 : gf ≠ w.heap.size + 1 + 1 := by omega
            have hgw : w.heap.size ≤ gf := by omega
            clear hor hbw hrb hr9 hr6 ho7 hoi hxs hxl
            by_cases hlt : j < TS.length
            · have hltI : decide ((j : Int) < (TS.length : Int)) = true := by simp; omega
              have hjI : (j : Int) < (TS.length : Int) := by omega
              have hj0 : (0 : Int) ≤ (j : Int) := by omega
              obtain ⟨bi, oi, hAt, _, hc⟩ := (own_in (R := intR) (enc := intC) intC_len (by decide) I.out (fun _ => rfl)).ints (by omega)
              have ci := hc j hlt
              have KT : Hid (∀ Wd, Fls Wd A7 FS → Cos Wd A' xs → Calls Tryz.prog 33 #[frV W H A' S.length cap', .agg #[.int .i64 W, .int .i64 H, .slice A7 fs.length cap7], .int .i64 TS[j]] Wd fun e w' => ∃ A'' cap'', e = .returned (frV W H A'' S.length cap'') ∧ Has w' Wd.heap.size 118 4 (.slice A'' S.length cap'') S.length ((tpixs W H FS (TS.take (j + 1)) S).flatMap bxC) ∧ Below Wd.heap.size Wd w') := Lib.hid (fun Wd h1 h2 => by
                have h := c_tilePixels W H A' cap' xs A7 cap7 FS TS[j] Wd h1 h2 (by rw [Hxl.out]; exact HSW.out) HOK.out (by rw [HFl.out]; exact HL.out) hW hH (HDok.out _ (List.getElem_mem hlt))
                rw [Hxl.out, HFl.out] at h
                rw [tpixs_take W H FS hlt, ← Hxs.out]
                exact h)
              have KC : Hid (Cos wr A' xs) := Lib.hid (by have h := O.out; rw [← Hxl.out] at h; exact cos_own h)
              have Hl2 : Hid ((tpixs W H FS (TS.take (j + 1)) S).length = S.length) := Lib.hid (by rw [tpixs_len])
              generalize hQ : tpixs W H FS (TS.take (j + 1)) S = Q at *
              have HQ := Lib.hid hQ
              generalize TS[j] = t at *
              clear hc hQ
              subst hAt
              have s0 := R9.out.cell_of (i := 0) rfl
              have s1 := R9.out.cell_of (i := 1) rfl
              have s2 := R9.out.cell_of (i := 2) rfl
              have m0 := RB.out.cell_of (i := 0) rfl
              have m1 := RB.out.cell_of (i := 1) rfl
              have m2 := RB.out.cell_of (i := 2) rfl
              go_wp2_with fail
              refine wp_region_calm [0,1,2,3,4,5] [6,7] (by kernel_rfl) (by kernel_rfl) ?_
              iterate 6 ((refine calm_yes rfl rfl (fun w' hC => (by have s0 := hC.cell s0; have s1 := hC.cell s1; have s2 := hC.cell s2; have m0 := hC.cell m0; have m1 := hC.cell m1; have m2 := hC.cell m2; have ci := hC.cell ci; go_simp; rfl)) (fun K hK => ?_); go_simp; refine hK _ ?_; clear hK K))
              refine calm_nil (fun wa hCa => ?_)
              clear s0 s1 s2 m0 m1 m2
              clear ci
              have Ea := ext_cls hCa
              refine late_fn rfl rfl rfl Tryz.func33 (by kernel_rfl) rfl (by go_simp) (fun wb hxb K hK => (KT.out wb (KF.out wb (Ext.trans (Ext.trans E.out Ea) hxb) (own_ext O7.out (Ext.trans Ea hxb))) (KC.out.ext coR_stab (Ext.trans Ea hxb))).mono ?_)
              rintro e wc ⟨A9, cap9, rfl, ho9, hb⟩
              refine ⟨_, rfl, hK _ _ ⟨fun _ => Cls.ext (Cls.ext hCa hxb) hb, ?_⟩⟩
              clear hK K
              refine late_free (by kernel_rfl) rfl rfl (fun wf hxf K hK => ?_)
              have Ex := Ext.trans (Ext.trans Ea hxb) (Ext.trans hb hxf)
              have Rf := RB.out.ext Ex
              have e0 := Rf.cell_of (i := 0) rfl
              have z0 := Rf.frozen 0
              have q1 := Rf.set_ 0 (.int .i64 W)
              have e1 := q1.cell_of (i := 1) rfl
              have z1 := q1.frozen 1
              have q2 := q1.set_ 1 (.int .i64 H)
              have e2 := q2.cell_of (i := 2) rfl
              have z2 := q2.frozen 2
              go_simp
              refine hK _ _ ?_
              clear hK K e0 e1 e2 z0 z1 z2
              refine late_nil (fun wz hxz => ?_)
              have hg := sets3 wf gf 0 (.int .i64 W) (.int .i64 H) (.slice A9 S.length cap9)
              have O2 := Lib.hid (own_ext (((own_ext ho9 hxf).rebase (Nat.le_trans hzr (Ext.trans Ea hxb).size)).keptB Rf (by decide) hg) hxz)
              have RB2 := Lib.hid ((q2.set_ 2 (.slice A9 S.length cap9)).ext hxz)
              have R92 := Lib.hid (((R9.out.ext Ex).keptG hg (Ne.symm hne9)).ext hxz)
              have R62 := Lib.hid (((R6.out.ext Ex).keptG hg (Ne.symm hne6)).ext hxz)
              have O72 := Lib.hid (own_ext ((own_ext O7.out Ex).keptB Rf (by decide) hg) hxz)
              have I2 := Lib.hid (own_ext ((own_ext I.out Ex).keptB Rf (by decide) hg) hxz)
              have E2 := Lib.hid (Ext.trans (below_set (Ext.trans E.out Ex) hg hgw (Ext.trans E.out Ex).size) hxz)
              clear q1 q2 Rf hg ho9 hxz hxf hb hxb hCa Ea Ex
              go_wp2
              go_roundw
              case rel => exact ⟨j + 1, A9, cap9, Q, by omega, by go_num, HQ.out.symm, Hl2.out, O2.out, RB2.out, R92.out, R62.out, O72.out, I2.out, E2.out⟩
              case measure => simp [intOf]; omega
            · obtain rfl : j = TS.length := by omega
              have hltI : decide ((TS.length : Int) < (TS.length : Int)) = false := by simp
              have Hf : Hid (M = ((W, H, xs), true)) := Lib.hid (by rw [Hz.out, Hxs.out, tpixs_all W H FS _ rfl])
              have hz := Hf.out
              subst hz
              clear Hz Hf
              have m0 := RB.out.cell_of (i := 0) rfl
              have m1 := RB.out.cell_of (i := 1) rfl
              have m2 := RB.out.cell_of (i := 2) rfl
              have r0 := R6.out.cell_of (i := 0) rfl
              have zr0 := R6.out.frozen 0
              have r1 := R6.out.cell_of (i := 1) rfl
              have zr1 := R6.out.frozen 1
              have r2 := R6.out.cell_of (i := 2) rfl
              have zr2 := R6.out.frozen 2
              go_wp2
              clear m0 m1 m2 r0 zr0 r1 zr1 r2 zr2
              refine gen_post (fun Wd hW3 => ?_)
              have hg2 : wr.grownBy Wd (some (w.heap.size + 1 + 1)) := by rw [hW3]; exact sets3 wr _ 0 _ _ _
              have D := R6.out
              have D2 : Row Wd (w.heap.size + 1 + 1) 37 [.int .i64 W, .int .i64 H, .slice A' S.length cap'] := by
                rw [hW3]; exact ((D.set_ 0 _).set_ 1 _).set_ 2 _
              have y0 := D2.cell_of (i := 0) rfl
              have y1 := D2.cell_of (i := 1) rfl
              have y2 := D2.cell_of (i := 2) rfl
              have O9 := (O.out.keptB D (by decide) hg2)
              have E9 := below_set E.out hg2 (by omega) E.out.size
              refine bodyPost_ret (v := .tuple #[frV W H A' S.length cap', .bool true]) (by simp [results, Tryz.results7, go_sem, y0, y1, y2]) rfl ⟨A', cap', ?_, ?_, E9⟩
              · dsimp only; rw [Hxl.out]
              · dsimp only; rw [Hxl.out]; exact O9
set_option maxRecDepth 100000 in
set_option maxHeartbeats 16000000 in
theorem c_iRedrawFill (W H : Int) (A : Option Addr) (cap : Nat) (fs : List FlD) (at_ : Int) (A1 : Option Addr) (c1 : Nat) (f : FlD) (A2 : Option Addr) (c2 : Nat) (w : World) (h : Fls w A fs) (hsA : SlOk A fs.length cap) (hf : VbK w A1 f.1) (s1 : SlOk A1 f.1.length c1) (hs : Sts w A2 f.2.2.2.2) (s2 : SlOk A2 f.2.2.2.2.length c2) (hsm : flsSm fs) (hsf : flSm f) :
    Calls Tryz.prog 10 #[.agg #[.int .i64 W, .int .i64 H, .slice A fs.length cap], .int .i64 at_, flV A1 f.1.length c1 f.2.1 f.2.2.1 f.2.2.2.1 A2 f.2.2.2.2.length c2] w fun e w' => RetFr w (rdR W H fs at_ f) e w' := by
  obtain ⟨us, r, ⟨fx, fy⟩, ⟨tx, ty⟩, ts⟩ := f
  obtain ⟨d, hd⟩ : ∃ d, (scB W H fs && (inB at_ 0 ((fs.length : Int) - 1) && flB (us, r, (fx, fy), (tx, ty), ts))) = d := ⟨_, rfl⟩
  obtain ⟨M, hM⟩ : ∃ M, rdR W H fs at_ (us, r, (fx, fy), (tx, ty), ts) = M := ⟨_, rfl⟩
  have HR : Hid (M = if d then ((W, H, tpixs W H (fs.set at_.toNat (us, r, (fx, fy), (tx, ty), ts)) (damL W H fs at_ (us, r, (fx, fy), (tx, ty), ts)) (drawL W H fs)), true) else noFr) := Lib.hid (by rw [← hM]; unfold rdR; rw [hd])
  rw [hM]
  have hl := hsm.1
  have HV : Hid (flR w (us, r, (fx, fy), (tx, ty), ts) (flC A1 us.length c1 r (fx, fy) (tx, ty) A2 ts.length c2)) := Lib.hid ⟨A1, c1, A2, c2, rfl, hf, s1, hs, s2⟩
  dsimp only at hf hs hsf s1 s2
  obtain ⟨uss, hC7, hS7⟩ := fls_src h
  have HC7 := Lib.hid hC7
  have H7 := Lib.hid hC7.all
  have HS7 := Lib.hid hS7
  have HsA := Lib.hid hsA
  have PW := Lib.hid h
  have HF := Lib.hid hf
  have HF0 := Lib.hid hf
  have HS := Lib.hid hs
  have HST0 := Lib.hid hs
  have Hsm := Lib.hid hsm
  have Hsf := Lib.hid hsf
  have Hd := Lib.hid hd
  have E := Lib.hid (Below.refl w.heap.size w)
  clear h hf hs s1 s2 hsA hsm hsf hd hM hC7 hS7
  go_enter Tryz.func10, Tryz.ntmps10
  go_wp2_with fail
  first | refine gen_calls ?_ | refine gen_code ?_ | refine gen_list ?_
  intro w0 hW
  obtain ⟨hb, hR0, hR1, hR6⟩ := new3 hW
  clear hW
  replace E := Lib.hid (Ext.trans E.out hb)
  replace HF := Lib.hid (HF.out.ext verbK_stab hb)
  replace HS := Lib.hid (HS.out.ext stR_stab hb)
  clear hb
  have R0 := Lib.hid hR0
  have lR0 := R0.out.lt
  clear hR0
  have R1 := Lib.hid hR1
  have lR1 := R1.out.lt
  clear hR1
  have R6 := Lib.hid hR6
  have lR6 := R6.out.lt
  clear hR6
  have k0 := R0.out.cell_of (i := 0) rfl
  have k1 := R0.out.cell_of (i := 1) rfl
  have k2 := R0.out.cell_of (i := 2) rfl
  have y0 := R1.out.cell_of (i := 0) rfl
  have y1 := R1.out.cell_of (i := 1) rfl
  have y2 := R1.out.cell_of (i := 2) rfl
  have y3 := R1.out.cell_of (i := 3) rfl
  have y4 := R1.out.cell_of (i := 4) rfl
  have y5 := R1.out.cell_of (i := 5) rfl
  have y6 := R1.out.cell_of (i := 6) rfl
  have r0 := R6.out.cell_of (i := 0) rfl
  have zr0 := R6.out.frozen 0
  have r1 := R6.out.cell_of (i := 1) rfl
  have zr1 := R6.out.frozen 1
  have r2 := R6.out.cell_of (i := 2) rfl
  have zr2 := R6.out.frozen 2
  go_wp2_with fail
  clear k0 k1 k2 y0 y1 y2 y3 y4 y5 y6 r0 zr0 r1 zr1 r2 zr2
  refine (c_replaceable W H A cap fs at_ A1 c1 (us, r, (fx, fy), (tx, ty), ts) A2 c2 _ (PW.out.ext flR_stab E.out) HF.out HS.out Hsm.out Hsf.out).mono ?_
  rw [Hd.out]
  rintro e w1 ⟨rfl, hb⟩
  replace E := Lib.hid (Ext.trans E.out hb)
  replace HF := Lib.hid (HF.out.ext verbK_stab hb)
  replace HS := Lib.hid (HS.out.ext stR_stab hb)
  replace R0 := Lib.hid (R0.out.ext hb)
  have lR0 := R0.out.lt
  replace R1 := Lib.hid (R1.out.ext hb)
  have lR1 := R1.out.lt
  replace R6 := Lib.hid (R6.out.ext hb)
  have lR6 := R6.out.lt
  clear hb
  have k0 := R0.out.cell_of (i := 0) rfl
  have k1 := R0.out.cell_of (i := 1) rfl
  have k2 := R0.out.cell_of (i := 2) rfl
  have y0 := R1.out.cell_of (i := 0) rfl
  have y1 := R1.out.cell_of (i := 1) rfl
  have y2 := R1.out.cell_of (i := 2) rfl
  have y3 := R1.out.cell_of (i := 3) rfl
  have y4 := R1.out.cell_of (i := 4) rfl
  have y5 := R1.out.cell_of (i := 5) rfl
  have y6 := R1.out.cell_of (i := 6) rfl
  have r0 := R6.out.cell_of (i := 0) rfl
  have zr0 := R6.out.frozen 0
  have r1 := R6.out.cell_of (i := 1) rfl
  have zr1 := R6.out.frozen 1
  have r2 := R6.out.cell_of (i := 2) rfl
  have zr2 := R6.out.frozen 2
  cases d
  · have hz : M = noFr := by rw [HR.out]; simp
    subst hz
    go_wp2
    exact bodyPost_ret (v := .tuple #[frV 0 0 none 0 0, .bool false]) (by simp [results, Tryz.results10, go_sem, r0, r1, r2]) rfl (RetFr.no (set3_below E.out (by omega) _ _ _))
  · have hd := Hd.out
    simp only [Bool.and_eq_true] at hd
    obtain ⟨e1, e2, e3⟩ := hd
    have H1 := Lib.hid e1
    have H2 := Lib.hid e2
    have H3 := Lib.hid e3
    clear e1 e2 e3
    obtain ⟨hW, hH⟩ := scB_sz H1.out
    have HL := Lib.hid (scB_le H1.out)
    have hat := inB_iff.1 H2.out
    obtain ⟨k, rfl⟩ : ∃ k : Nat, at_ = k := ⟨at_.toNat, by omega⟩
    have hk : k < fs.length := by omega
    have hkI : (k : Int) < (fs.length : Int) := by omega
    have hk0 : (0 : Int) ≤ (k : Int) := by omega
    have hl4 : fs.length ≤ 4 := HL.out
    rw [Int.toNat_natCast] at HR
    have HDok := Lib.hid (damL_ok fs (k : Int) (us, r, (fx, fy), (tx, ty), ts) hW hH)
    have hdl := damL_len fs (k : Int) (us, r, (fx, fy), (tx, ty), ts) hW hH
    have hSW := drawL_len fs hW hH
    have hS144 := mul_12 hW hH
    obtain ⟨FS, hFS⟩ : ∃ FS, fs.set k (us, r, (fx, fy), (tx, ty), ts) = FS := ⟨_, rfl⟩
    have hFl : FS.length = fs.length := by rw [← hFS, List.length_set]
    have HFl := Lib.hid hFl
    have HOK : Hid (okFs FS) := Lib.hid (by rw [← hFS]; exact scB_all (scB_set H1.out k H3.out))
    rw [hFS] at HR
    obtain ⟨S, hS⟩ : ∃ S, drawL W H fs = S := ⟨_, rfl⟩
    obtain ⟨TS, hTS⟩ : ∃ TS, damL W H fs (k : Int) (us, r, (fx, fy), (tx, ty), ts) = TS := ⟨_, rfl⟩
    rw [hTS] at hdl HDok HR
    rw [hS] at hSW HR
    have HSW := Lib.hid hSW
    have HS0 := Lib.hid hS
    have HTS := Lib.hid hTS
    have hSl : S.length ≤ 144 := by omega
    have HFS := Lib.hid hFS
    clear hFl hSW hS144 hS hTS hFS hat
    have Hz : Hid (M = ((W, H, tpixs W H FS TS S), true)) := Lib.hid (by rw [HR.out]; rfl)
    have KD : Hid (∀ Wd, Fls Wd A fs → Calls Tryz.prog 39 #[.agg #[.int .i64 W, .int .i64 H, .slice A fs.length cap]] Wd fun e w' => RetCo Wd S e w') := Lib.hid (fun Wd h1 => by
      have h := c_idraw W H A cap fs Wd h1 (scB_all H1.out) HL.out hW hH
      rw [HS0.out] at h
      exact h)
    have HDR : Hid (damR W H fs (k : Int) (us, r, (fx, fy), (tx, ty), ts) = TS) := Lib.hid (by unfold damR; rw [Hd.out, if_pos rfl, HTS.out])
    have HC2 : Hid (Cells7 w FS (uss.set k [.slice A1 us.length c1, .int .i64 r, .int .i64 fx, .int .i64 fy, .int .i64 tx, .int .i64 ty, .slice A2 ts.length c2])) := Lib.hid (by rw [← HFS.out]; exact HC7.out.set k HV.out)
    have hz1 : w.heap.size ≤ w1.heap.size := E.out.size
    have hz16 : w.heap.size + 1 + 1 < w1.heap.size := R6.out.lt
    clear HR
    clear k0 k1 k2 y0 y1 y2 y3 y4 y5 y6 r0 zr0 r1 zr1 r2 zr2
    have k0 := R0.out.cell_of (i := 0) rfl
    have k1 := R0.out.cell_of (i := 1) rfl
    have k2 := R0.out.cell_of (i := 2) rfl
    have y0 := R1.out.cell_of (i := 0) rfl
    have y1 := R1.out.cell_of (i := 1) rfl
    have y2 := R1.out.cell_of (i := 2) rfl
    have y3 := R1.out.cell_of (i := 3) rfl
    have y4 := R1.out.cell_of (i := 4) rfl
    have y5 := R1.out.cell_of (i := 5) rfl
    have y6 := R1.out.cell_of (i := 6) rfl
    go_wp2_with fail
    clear k0 k1 k2 y0 y1 y2 y3 y4 y5 y6
    first | refine gen_calls ?_ | refine gen_code ?_ | refine gen_list ?_
    intro w2 hW
    obtain ⟨hb, hR8⟩ := new1 hW
    clear hW
    replace E := Lib.hid (Ext.trans E.out hb)
    replace HF := Lib.hid (HF.out.ext verbK_stab hb)
    replace HS := Lib.hid (HS.out.ext stR_stab hb)
    replace R0 := Lib.hid (R0.out.ext hb)
    have lR0 := R0.out.lt
    replace R1 := Lib.hid (R1.out.ext hb)
    have lR1 := R1.out.lt
    replace R6 := Lib.hid (R6.out.ext hb)
    have lR6 := R6.out.lt
    clear hb
    have R8 := Lib.hid hR8
    have lR8 := R8.out.lt
    clear hR8
    have k0 := R0.out.cell_of (i := 0) rfl
    have k1 := R0.out.cell_of (i := 1) rfl
    have k2 := R0.out.cell_of (i := 2) rfl
    have y0 := R1.out.cell_of (i := 0) rfl
    have y1 := R1.out.cell_of (i := 1) rfl
    have y2 := R1.out.cell_of (i := 2) rfl
    have y3 := R1.out.cell_of (i := 3) rfl
    have y4 := R1.out.cell_of (i := 4) rfl
    have y5 := R1.out.cell_of (i := 5) rfl
    have y6 := R1.out.cell_of (i := 6) rfl
    have hz28 : w1.heap.size < w2.heap.size := R8.out.lt
    clear k0 k1 k2 y0 y1 y2 y3 y4 y5 y6
    have k0 := R0.out.cell_of (i := 0) rfl
    have k1 := R0.out.cell_of (i := 1) rfl
    have k2 := R0.out.cell_of (i := 2) rfl
    have y0 := R1.out.cell_of (i := 0) rfl
    have y1 := R1.out.cell_of (i := 1) rfl
    have y2 := R1.out.cell_of (i := 2) rfl
    have y3 := R1.out.cell_of (i := 3) rfl
    have y4 := R1.out.cell_of (i := 4) rfl
    have y5 := R1.out.cell_of (i := 5) rfl
    have y6 := R1.out.cell_of (i := 6) rfl
    go_wp2_with fail
    clear k0 k1 k2 y0 y1 y2 y3 y4 y5 y6
    refine (c_Clone_ei_fl A fs.length cap uss.flatten _ (HS7.out.ext E.out) HsA.out (by omega)).mono ?_
    rintro e w3 ⟨A7, cap7, rfl, _, ho7, hb⟩
    replace E := Lib.hid (Ext.trans E.out hb)
    replace HF := Lib.hid (HF.out.ext verbK_stab hb)
    replace HS := Lib.hid (HS.out.ext stR_stab hb)
    replace R0 := Lib.hid (R0.out.ext hb)
    have lR0 := R0.out.lt
    replace R1 := Lib.hid (R1.out.ext hb)
    have lR1 := R1.out.lt
    replace R6 := Lib.hid (R6.out.ext hb)
    have lR6 := R6.out.lt
    replace R8 := Lib.hid (R8.out.ext hb)
    have lR8 := R8.out.lt
    clear hb
    have O7 := Lib.hid (ho7)
    clear ho7
    have k0 := R0.out.cell_of (i := 0) rfl
    have k1 := R0.out.cell_of (i := 1) rfl
    have k2 := R0.out.cell_of (i := 2) rfl
    have y0 := R1.out.cell_of (i := 0) rfl
    have y1 := R1.out.cell_of (i := 1) rfl
    have y2 := R1.out.cell_of (i := 2) rfl
    have y3 := R1.out.cell_of (i := 3) rfl
    have y4 := R1.out.cell_of (i := 4) rfl
    have y5 := R1.out.cell_of (i := 5) rfl
    have y6 := R1.out.cell_of (i := 6) rfl
    obtain ⟨g, rfl, hBg, hgw⟩ := own_at O7.out (by omega)
    obtain ⟨⟨o0, e0⟩, ⟨o1, e1⟩, ⟨o2, e2⟩, ⟨o3, e3⟩, ⟨o4, e4⟩, ⟨o5, e5⟩, ⟨o6, e6⟩⟩ := O7.out.atF hk
    have f0 := O7.out.frozenAt (k * 7)
    have f1 := O7.out.frozenAt (k * 7 + 1)
    have f2 := O7.out.frozenAt (k * 7 + 2)
    have f3 := O7.out.frozenAt (k * 7 + 3)
    have f4 := O7.out.frozenAt (k * 7 + 4)
    have f5 := O7.out.frozenAt (k * 7 + 5)
    have f6 := O7.out.frozenAt (k * 7 + 6)
    have n1 : ¬ g = w1.heap.size := by omega
    have n2 : ¬ w1.heap.size = g := by omega
    have n3 : ¬ w1.heap.size = w.heap.size := by omega
    have n4 : ¬ w1.heap.size = w.heap.size + 1 := by omega
    have n5 : ¬ g = w.heap.size := by omega
    have n6 : ¬ g = w.heap.size + 1 := by omega
    have n7 : ¬ w.heap.size = w1.heap.size := by omega
    have n8 : ¬ w.heap.size + 1 = w1.heap.size := by omega
    clear k0 k1 k2 y0 y1 y2 y3 y4 y5 y6
    have k0 := R0.out.cell_of (i := 0) rfl
    have k1 := R0.out.cell_of (i := 1) rfl
    have k2 := R0.out.cell_of (i := 2) rfl
    have y0 := R1.out.cell_of (i := 0) rfl
    have y1 := R1.out.cell_of (i := 1) rfl
    have y2 := R1.out.cell_of (i := 2) rfl
    have y3 := R1.out.cell_of (i := 3) rfl
    have y4 := R1.out.cell_of (i := 4) rfl
    have y5 := R1.out.cell_of (i := 5) rfl
    have y6 := R1.out.cell_of (i := 6) rfl
    have q0 := R8.out.cell_of (i := 0) rfl
    have zq0 := R8.out.frozen 0
    have q1 := R8.out.cell_of (i := 1) rfl
    have zq1 := R8.out.frozen 1
    have q2 := R8.out.cell_of (i := 2) rfl
    have zq2 := R8.out.frozen 2
    go_wp2_with fail
    clear k0 k1 k2 y0 y1 y2 y3 y4 y5 y6 q0 zq0 q1 zq1 q2 zq2
    first | refine gen_code ?_ | refine gen_list ?_
    intro w4 hW4
    clear e0 e1 e2 e3 e4 e5 e6 f0 f1 f2 f3 f4 f5 f6 o0 o1 o2 o3 o4 o5 o6
    obtain ⟨Wm, hWm⟩ : ∃ Wm, w3.setCell ⟨w1.heap.size, 2, none⟩ (.slice (some ⟨g, 0, none⟩) fs.length cap7) = Wm := ⟨_, rfl⟩
    rw [hWm] at hW4
    have hgA : w3.grownBy Wm (some w1.heap.size) := by rw [← hWm]; exact set_grown _ _ 2 _
    have r8 : Row Wm w1.heap.size 42 [.int .i64 W, .int .i64 H, .slice (some ⟨g, 0, none⟩) fs.length cap7] := by rw [← hWm]; exact R8.out.set_ 2 _
    have hPF := (O7.out.keptB R8.out (by decide) hgA).putF H7.out k (.slice A1 us.length c1) (.int .i64 r) (.int .i64 fx) (.int .i64 fy) (.int .i64 tx) (.int .i64 ty) (.slice A2 ts.length c2)
    have hW5 : w4 = setF Wm g k (.slice A1 us.length c1) (.int .i64 r) (.int .i64 fx) (.int .i64 fy) (.int .i64 tx) (.int .i64 ty) (.slice A2 ts.length c2) := hW4
    rw [← hW5] at hPF
    replace R8 := Lib.hid (r8.keptG hPF.2 n2)
    replace R0 := Lib.hid ((R0.out.keptG hgA (by omega)).keptG hPF.2 (by omega))
    replace R1 := Lib.hid ((R1.out.keptG hgA (by omega)).keptG hPF.2 (by omega))
    replace R6 := Lib.hid ((R6.out.keptG hgA (by omega)).keptG hPF.2 (by omega))
    have Em := below_set E.out hgA hz1 E.out.size
    replace E := Lib.hid (below_set Em hPF.2 (by omega) Em.size)
    have PB : Hid (Fls w4 (some ⟨g, 0, none⟩) FS) := Lib.hid (cells7_fls (HC2.out.ext E.out) HFl.out.symm hPF.1)
    have hz4 : w.heap.size ≤ w4.heap.size := E.out.size
    replace HF := Lib.hid (HF0.out.ext verbK_stab E.out)
    replace HS := Lib.hid (HST0.out.ext stR_stab E.out)
    have R84 := Lib.hid R8.out
    have R64 := Lib.hid R6.out
    have E4 := Lib.hid E.out
    have lR0 := R0.out.lt
    have lR1 := R1.out.lt
    have lR6 := R6.out.lt
    clear hW4 hW5 hWm hgA r8 hPF Em O7 n1 n2 n3 n4 n5 n6 n7 n8 lR8
    have k0 := R0.out.cell_of (i := 0) rfl
    have k1 := R0.out.cell_of (i := 1) rfl
    have k2 := R0.out.cell_of (i := 2) rfl
    have y0 := R1.out.cell_of (i := 0) rfl
    have y1 := R1.out.cell_of (i := 1) rfl
    have y2 := R1.out.cell_of (i := 2) rfl
    have y3 := R1.out.cell_of (i := 3) rfl
    have y4 := R1.out.cell_of (i := 4) rfl
    have y5 := R1.out.cell_of (i := 5) rfl
    have y6 := R1.out.cell_of (i := 6) rfl
    refine wp_region_invJ [0,1,2,3,4] [(5, some 33), (6, some 34), (7, some 9), (8, none)] (by kernel_rfl) (by kernel_rfl)
      (FrJ 5 6 7 8 w4.heap.size W H S.length (S.flatMap bxC)) (fun _ _ _ _ h hx => h.ext hx) ?_ ?_
    · intro vals w'
      exact FrJ.start (by decide) (by decide) (by decide) (by decide)
    iterate 5 ((refine calm_yes rfl rfl (fun w' hC => (by have k0 := hC.cell k0; have k1 := hC.cell k1; have k2 := hC.cell k2; go_simp; rfl)) (fun K hK => ?_); go_simp; refine hK _ ?_; clear hK K))
    refine calm_nil ?_
    clear k0 k1 k2 y0 y1 y2 y3 y4 y5 y6
    refine ⟨List.forall_mem_cons.2 ⟨?_, List.forall_mem_cons.2 ⟨?_, List.forall_mem_cons.2 ⟨?_, List.forall_mem_cons.2 ⟨?_, by simp⟩⟩⟩⟩, ?_⟩
    · refine step_op rfl (fun vals => rfl) (fun listed vals w' hC hl' hn hJ K hK => ?_)
      simp only [canon, List.foldl_cons, List.foldl_nil]
      go_simp
      refine (KD.out w' (PW.out.ext flR_stab (Ext.trans E.out (Below.trans (Below.refl _ w4).drew hC)))).mono ?_
      rintro e w'' ⟨A', cap', rfl, ho, hb⟩
      exact hK _ (.slice A' S.length cap') _ rfl (Cls.ext hC hb) (hJ.called hb (by decide) hl' A' _ (ho.rebase hC.size))
    · refine step_op rfl (fun vals => rfl) (fun listed vals w' hC hl' hn hJ K hK => ?_)
      have h6 := hn 5 (by kernel_rfl)
      obtain ⟨A6, cap6, k6, _⟩ := hJ.call h6
      simp only [canon, List.foldl_cons, List.foldl_nil]
      rw [k6]
      go_simp
      exact hK _ (.agg #[.int .i64 W, .int .i64 H, .slice A6 S.length cap6]) _ (by simp only [canon, List.foldl_cons, List.foldl_nil, k6]; rfl) hC (hJ.built (by decide) h6 _ (by rw [k6]))
    · refine step_op rfl (fun vals => rfl) (fun listed vals w' hC hl' hn hJ K hK => ?_)
      simp only [canon, List.foldl_cons, List.foldl_nil]
      go_simp
      exact hK _ (.pointer (some ⟨w'.heap.size, 0, none⟩)) _ rfl (Below.alloc hC hC.size _) (hJ.allocd (by decide) hl' hC.size)
    · refine step_op rfl (fun vals => rfl) (fun listed vals w' hC hl' hn hJ K hK => ?_)
      have h6 := hn 5 (by kernel_rfl)
      have h7 := hn 6 (by kernel_rfl)
      have h8 := hn 7 (by kernel_rfl)
      obtain ⟨g, cs3, k1, k2, k3, k5, _⟩ := hJ.mem h8
      obtain ⟨_, k4⟩ := hJ.pic h7
      match cs3, k5 with
      | [u0, u1, u2], _ =>
      have e0 := k3.cell_of (i := 0) rfl
      have z0 := k3.frozen 0
      have r1 := k3.set_ 0 (.int .i64 W)
      have e1 := r1.cell_of (i := 1) rfl
      have z1 := r1.frozen 1
      have r2 := r1.set_ 1 (.int .i64 H)
      have e2 := r2.cell_of (i := 2) rfl
      have z2 := r2.frozen 2
      have b3 := set3_below hC (show w4.drew.heap.size ≤ g from k2) (.int .i64 W) (.int .i64 H) (vals 5)
      have hst := hJ.stored (by decide) h6 h8 k1 h7 (.bool false) k3 rfl
      obtain ⟨A6, cap6, k6, _⟩ := hJ.call h6
      simp only [canon, List.foldl_cons, List.foldl_nil]
      rw [k1, k4, k6]
      rw [k6] at hst b3
      go_simp
      exact hK _ (.bool false) _ (by simp only [canon, List.foldl_cons, List.foldl_nil, k1, k4, k6]; rfl) b3 hst
    · intro listed vals wp hx hall hJ K hK
      have h6 := hall 5 (by decide)
      have h7 := hall 6 (by decide)
      have h8 := hall 7 (by decide)
      have h9 := hall 8 (by decide)
      obtain ⟨A6, cap6, k6, ho⟩ := hJ.call h6
      obtain ⟨gf, cs3, k1, k2, k3, _, k7⟩ := hJ.mem h8
      obtain ⟨_, k4⟩ := hJ.pic h7
      obtain rfl := k7 h9
      rw [k6] at k3
      simp only [canon, List.foldl_cons, List.foldl_nil]
      rw [k1, k4, k6]
      go_simp
      refine hK _ ?_
      clear hK K hJ hall k1 k4 k6 h6 h7 h8 h9 k7
      have X := Lib.hid hx
      have O := Lib.hid ho
      have RB := Lib.hid k3
      clear ho k3
      replace E := Lib.hid (Ext.trans E.out hx)
      replace HF := Lib.hid (HF.out.ext verbK_stab hx)
      replace HS := Lib.hid (HS.out.ext stR_stab hx)
      replace R0 := Lib.hid (R0.out.ext hx)
      have lR0 := R0.out.lt
      replace R1 := Lib.hid (R1.out.ext hx)
      have lR1 := R1.out.lt
      clear hx
      have k0 := R0.out.cell_of (i := 0) rfl
      have k1 := R0.out.cell_of (i := 1) rfl
      have k2 := R0.out.cell_of (i := 2) rfl
      have y0 := R1.out.cell_of (i := 0) rfl
      have y1 := R1.out.cell_of (i := 1) rfl
      have y2 := R1.out.cell_of (i := 2) rfl
      have y3 := R1.out.cell_of (i := 3) rfl
      have y4 := R1.out.cell_of (i := 4) rfl
      have y5 := R1.out.cell_of (i := 5) rfl
      have y6 := R1.out.cell_of (i := 6) rfl
      clear k0 k1 k2 y0 y1 y2 y3 y4 y5 y6
      have k0 := R0.out.cell_of (i := 0) rfl
      have k1 := R0.out.cell_of (i := 1) rfl
      have k2 := R0.out.cell_of (i := 2) rfl
      have y0 := R1.out.cell_of (i := 0) rfl
      have y1 := R1.out.cell_of (i := 1) rfl
      have y2 := R1.out.cell_of (i := 2) rfl
      have y3 := R1.out.cell_of (i := 3) rfl
      have y4 := R1.out.cell_of (i := 4) rfl
      have y5 := R1.out.cell_of (i := 5) rfl
      have y6 := R1.out.cell_of (i := 6) rfl
      have hzp : w4.heap.size ≤ wp.heap.size := X.out.size
      go_wp2_with fail
      clear k0 k1 k2 y0 y1 y2 y3 y4 y5 y6
      refine (c_iDamageOf W H A cap fs (k : Int) A1 c1 (us, r, (fx, fy), (tx, ty), ts) A2 c2 _ (PW.out.ext flR_stab E.out) HF.out HS.out Hsm.out Hsf.out).mono ?_
      rw [HDR.out]
      rintro e w6 ⟨A8, cap8, rfl, ho8, hb⟩
      replace E := Lib.hid (Ext.trans E.out hb)
      replace HF := Lib.hid (HF.out.ext verbK_stab hb)
      replace HS := Lib.hid (HS.out.ext stR_stab hb)
      replace R0 := Lib.hid (R0.out.ext hb)
      have lR0 := R0.out.lt
      replace R1 := Lib.hid (R1.out.ext hb)
      have lR1 := R1.out.lt
      replace X := Lib.hid (Ext.trans X.out hb)
      replace O := Lib.hid (own_ext O.out hb)
      replace RB := Lib.hid (RB.out.ext hb)
      have lRB := RB.out.lt
      clear hb
      have I := Lib.hid ((ho8.rebase hzp))
      have k0 := R0.out.cell_of (i := 0) rfl
      have k1 := R0.out.cell_of (i := 1) rfl
      have k2 := R0.out.cell_of (i := 2) rfl
      have y0 := R1.out.cell_of (i := 0) rfl
      have y1 := R1.out.cell_of (i := 1) rfl
      have y2 := R1.out.cell_of (i := 2) rfl
      have y3 := R1.out.cell_of (i := 3) rfl
      have y4 := R1.out.cell_of (i := 4) rfl
      have y5 := R1.out.cell_of (i := 5) rfl
      have y6 := R1.out.cell_of (i := 6) rfl
      clear ho8
      go_wp2_with fail
      clear k0 k1 k2 y0 y1 y2 y3 y4 y5 y6
      go_loopw [11, 40] (fun _ i wr => ∃ (j : Nat) (xs : List Bx4), j ≤ TS.length ∧ i = .int .i64 j ∧ xs = tpixs W H FS (TS.take j) S ∧ xs.length = S.length ∧ Has wr w4.heap.size 118 4 (.slice A6 S.length cap6) S.length (xs.flatMap bxC) ∧ Row wr gf 37 [.int .i64 W, .int .i64 H, .slice A6 S.length cap6] ∧ Has wr w4.heap.size 3 1 (.slice A8 TS.length cap8) TS.length (TS.flatMap intC) ∧ Below w4.heap.size w4 wr) (fun _ i _ => TS.length - (intOf i).toNat)
      case atStart => exact ⟨0, S, Nat.zero_le _, rfl, (tpixs_zero W H FS _ TS).symm, rfl, O.out, RB.out, I.out, X.out⟩
      case round =>
        obtain ⟨j, xs, hj, rfl, hxs, hxl, hor, hrb, hoi, hbw⟩ := hrel
        clear O E RB R6 R8 I X R0 R1 HF HS
        have O := Lib.hid hor
        have X := Lib.hid hbw
        have RB := Lib.hid hrb
        have I := Lib.hid hoi
        have R8 := Lib.hid (R84.out.ext hbw)
        have R6 := Lib.hid (R64.out.ext hbw)
        have E := Lib.hid (Ext.trans E4.out hbw)
        have Hxs := Lib.hid hxs
        have Hxl := Lib.hid hxl
        have hzr : w4.heap.size ≤ wr.heap.size := hbw.size
        clear hor hbw hrb hoi hxs hxl
        by_cases hlt : j < TS.length
        · have hltI : decide ((j : Int) < (TS.length : Int)) = true := by simp; omega
          have hjI : (j : Int) < (TS.length : Int) := by omega
          have hj0 : (0 : Int) ≤ (j : Int) := by omega
          obtain ⟨bi, oi, hAt, _, hc⟩ := (own_in (R := intR) (enc := intC) intC_len (by decide) I.out (fun _ => rfl)).ints (by omega)
          have ci := hc j hlt
          have KT : Hid (∀ Wd, Below w4.heap.size w4 Wd → Has Wd w4.heap.size 118 4 (.slice A6 S.length cap6) S.length (xs.flatMap bxC) → Calls Tryz.prog 41 #[frV W H A6 S.length cap6, .agg #[.int .i64 W, .int .i64 H, .slice (some ⟨g, 0, none⟩) fs.length cap7], .int .i64 TS[j]] Wd fun e w' => e = .returned (.bool (tlB W H TS[j])) ∧ Has w' w4.heap.size 118 4 (.slice A6 S.length cap6) S.length ((tpixs W H FS (TS.take (j + 1)) S).flatMap bxC) ∧ Wd.grownBy w' (Value.slice A6 S.length cap6).ownBlock) := Lib.hid (fun Wd h1 h2 => by
            have h := c_fdraw W H A6 cap6 xs (some ⟨g, 0, none⟩) cap7 FS TS[j] w4.heap.size w4 Wd PB.out h1 (Nat.le_refl _) (by rw [Hxl.out]; exact h2) (by rw [Hxl.out]; exact HSW.out) HOK.out (by rw [HFl.out]; exact HL.out) hW hH
            rw [Hxl.out, HFl.out] at h
            rw [tpixs_take W H FS hlt, ← Hxs.out]
            exact h)
          have Hl2 : Hid ((tpixs W H FS (TS.take (j + 1)) S).length = S.length) := Lib.hid (by rw [tpixs_len])
          generalize hQ : tpixs W H FS (TS.take (j + 1)) S = Q at *
          have HQ := Lib.hid hQ
          generalize tlB W H TS[j] = dt at *
          generalize TS[j] = t at *
          clear hc hQ
          subst hAt
          have s0 := R8.out.cell_of (i := 0) rfl
          have s1 := R8.out.cell_of (i := 1) rfl
          have s2 := R8.out.cell_of (i := 2) rfl
          have m0 := RB.out.cell_of (i := 0) rfl
          have m1 := RB.out.cell_of (i := 1) rfl
          have m2 := RB.out.cell_of (i := 2) rfl
          go_wp2_with fail
          clear s0 s1 s2 m0 m1 m2
          clear ci
          refine (KT.out _ X.out O.out).mono ?_
          rintro e w5 ⟨rfl, ho5, hg5⟩
          replace RB := Lib.hid (RB.out.grownNe O.out (by decide) hg5)
          replace I := Lib.hid (I.out.grownNe O.out (by decide) hg5)
          replace X := Lib.hid (own_below X.out O.out hg5 hzr)
          replace O := Lib.hid ho5
          clear ho5 hg5
          go_wp2
          go_roundw
          case rel => exact ⟨j + 1, Q, by omega, by go_num, HQ.out.symm, Hl2.out, O.out, RB.out, I.out, X.out⟩
          case measure => simp [intOf]; omega
        · obtain rfl : j = TS.length := by omega
          have hltI : decide ((TS.length : Int) < (TS.length : Int)) = false := by simp
          have Hf : Hid (M = ((W, H, xs), true)) := Lib.hid (by rw [Hz.out, Hxs.out, tpixs_all W H FS _ rfl])
          have hz := Hf.out
          subst hz
          clear Hz Hf
          have m0 := RB.out.cell_of (i := 0) rfl
          have m1 := RB.out.cell_of (i := 1) rfl
          have m2 := RB.out.cell_of (i := 2) rfl
          have r0 := R6.out.cell_of (i := 0) rfl
          have zr0 := R6.out.frozen 0
          have r1 := R6.out.cell_of (i := 1) rfl
          have zr1 := R6.out.frozen 1
          have r2 := R6.out.cell_of (i := 2) rfl
          have zr2 := R6.out.frozen 2
          go_wp2
          clear m0 m1 m2 r0 zr0 r1 zr1 r2 zr2
          refine gen_post (fun Wd hW3 => ?_)
          have hg2 : wr.grownBy Wd (some (w.heap.size + 1 + 1)) := by rw [hW3]; exact sets3 wr _ 0 _ _ _
          have D := R6.out
          have D2 : Row Wd (w.heap.size + 1 + 1) 37 [.int .i64 W, .int .i64 H, .slice A6 S.length cap6] := by
            rw [hW3]; exact ((D.set_ 0 _).set_ 1 _).set_ 2 _
          have y0 := D2.cell_of (i := 0) rfl
          have y1 := D2.cell_of (i := 1) rfl
          have y2 := D2.cell_of (i := 2) rfl
          have O9 := Has.rebase (O.out.keptB D (by decide) hg2) hz4
          have E9 := below_set E.out hg2 (by omega) E.out.size
          refine bodyPost_ret (v := .tuple #[frV W H A6 S.length cap6, .bool true]) (by simp [results, Tryz.results10, go_sem, y0, y1, y2]) rfl ⟨A6, cap6, ?_, ?_, E9⟩
          · dsimp only; rw [Hxl.out]
          · dsimp only; rw [Hxl.out]; exact O9
end Go.Proofs.YtagmnbphbakikaaGreat
