/-
  Paints drawn, and where to ask for their color.
-/
import Derived.Test.YtonilmpodijgeaaGenP
import Derived.Test.YtonilmpodijgeaaPaint
import Derived.Test.YtonilmpodijgeaaRegionG
namespace Go.Proofs.Ytonilmpodijgeaa
open Go Go.RowKit Reg
attribute [local go_sem] calmAt calmUpon RegG.calmAt RegG.calmUpon
/-- What is owned and of another type than block b is left alone by what writes b alone. -/
theorem Has.keptB {w w' : World} {B e e2 sz n b : Nat} {v : Value} {xs cs : List Value} (h : Has w B e sz v n xs) (hr : Row w b e2 cs) (he : e ≠ e2) (hg : w.grownBy w' (some b)) : Has w' B e sz v n xs := by
  refine h.kept hg ?_
  cases hv : v.ownBlock with
  | none => exact .inl rfl
  | some k =>
    refine .inr fun heq => ?_
    injection heq with heq
    subst heq
    rcases h.2 with ⟨rfl, _⟩ | ⟨g', cap, cur, rfl, _, h3, _⟩
    · cases hv
    · have : g' = k := by simpa [Value.ownBlock] using hv
      subst this
      unfold Row at hr
      rw [h3] at hr
      injection hr with hr
      injection hr with _ h2
      exact he h2
theorem Has.setB {w : World} {B e e2 sz n b : Nat} {v : Value} {xs cs : List Value} (h : Has w B e sz v n xs) (hr : Row w b e2 cs) (he : e ≠ e2) (i : Nat) (u : Value) : Has (w.setCell ⟨b, i, none⟩ u) B e sz v n xs :=
  h.keptB hr he (only_set (only_refl w (some b)) i u)
theorem Has.setB5 {w : World} {B e e2 sz n b : Nat} {v : Value} {xs cs : List Value} (h : Has w B e sz v n xs) (hr : Row w b e2 cs) (he : e ≠ e2) (u0 u1 u2 u3 u4 : Value) :
    Has (((((w.setCell ⟨b, 0, none⟩ u0).setCell ⟨b, 1, none⟩ u1).setCell ⟨b, 2, none⟩ u2).setCell ⟨b, 3, none⟩ u3).setCell ⟨b, 4, none⟩ u4) B e sz v n xs :=
  ((((h.setB hr he 0 u0).setB (hr.set_ 0 u0) he 1 u1).setB ((hr.set_ 0 u0).set_ 1 u1) he 2 u2).setB (((hr.set_ 0 u0).set_ 1 u1).set_ 2 u2) he 3 u3).setB ((((hr.set_ 0 u0).set_ 1 u1).set_ 2 u2).set_ 3 u3) he 4 u4
theorem Rdr.far5 {w : World} {g N b : Nat} (h : Rdr w g N) (hp : g < b) (u0 u1 u2 u3 u4 : Value) :
    Rdr (((((w.setCell ⟨b, 0, none⟩ u0).setCell ⟨b, 1, none⟩ u1).setCell ⟨b, 2, none⟩ u2).setCell ⟨b, 3, none⟩ u3).setCell ⟨b, 4, none⟩ u4) g N :=
  ((((h.far (p := ⟨b, 0, none⟩) hp u0).far (p := ⟨b, 1, none⟩) hp u1).far (p := ⟨b, 2, none⟩) hp u2).far (p := ⟨b, 3, none⟩) hp u3).far (p := ⟨b, 4, none⟩) hp u4
theorem grown_far5 {a w : World} {g b : Nat} (h : a.grownBy w (some g)) (hp : a.heap.size ≤ b) (u0 u1 u2 u3 u4 : Value) :
    a.grownBy (((((w.setCell ⟨b, 0, none⟩ u0).setCell ⟨b, 1, none⟩ u1).setCell ⟨b, 2, none⟩ u2).setCell ⟨b, 3, none⟩ u3).setCell ⟨b, 4, none⟩ u4) (some g) :=
  grown_far (grown_far (grown_far (grown_far (grown_far h (p := ⟨b, 0, none⟩) hp u0) (p := ⟨b, 1, none⟩) hp u1) (p := ⟨b, 2, none⟩) hp u2) (p := ⟨b, 3, none⟩) hp u3) (p := ⟨b, 4, none⟩) hp u4
theorem ST_ne_PA : (64 : TypeId) ≠ 56 := by decide
theorem crd00 : VpP (0, 0) := by unfold VpP; decide
/-- A paint drawn, its stops in a row of their own. -/
def DrewPa (w w' : World) (e : Ending) (g N : Nat) : Prop := ∃ f t : Pt, ∃ A cap, ∃ ss : List St, e = .returned (paV f t A ss.length cap) ∧ (VpP f ∧ VpP t) ∧ ss.length ≤ 4 ∧ 1 ≤ ss.length ∧ Has w' w.heap.size 64 5 (.slice A ss.length cap) ss.length (ss.flatMap stC) ∧ Rdr w' g N ∧ w.grownBy w' (some g)
abbrev paC (f t : Pt) (A : Option Addr) (n cap : Nat) : List Value := [.int .i64 f.1, .int .i64 f.2, .int .i64 t.1, .int .i64 t.2, .slice A n cap]
set_option maxRecDepth 100000 in
set_option maxHeartbeats 4000000 in
theorem c_randomPaint (g N : Nat) (w : World) (h : Rdr w g N) (hN : N + 40 ≤ 1000000) :
    Calls Try.prog 81 #[.pointer (some ⟨g, 0, none⟩)] w fun e w' => DrewPa w w' e g (N + 40) := by
  have hlt := h.lt
  have H := Lib.hid (h.ext (ext_alloc w (.cells (paC (0, 0) (0, 0) none 0 0).toArray 56)))
  have R0 : Hid (Row (w.alloc (.cells (paC (0, 0) (0, 0) none 0 0).toArray 56)) w.heap.size 56 (paC (0, 0) (0, 0) none 0 0)) := Lib.hid (Row.new w 56 _)
  have G0 : Hid (w.grownBy (w.alloc (.cells (paC (0, 0) (0, 0) none 0 0).toArray 56)) (some g)) := Lib.hid (grown_ext (ext_alloc _ _))
  clear h
  go_enter Try.func81, Try.ntmps81
  go_wp2_with fail
  refine (c_randomStops g N _ H.out (by omega)).mono ?_
  rintro e w1 ⟨A, cap, ss, rfl, hl, hl1, ho1, hr1, hg1⟩
  have O1 := Lib.hid (ho1.rebase G0.out.size)
  have R1 := Lib.hid (R0.out.keptR hg1 (by omega))
  have G1 := Lib.hid (grown_trans G0.out hg1)
  have H1 := Lib.hid hr1
  have hz1 : w.heap.size < w1.heap.size := R1.out.lt
  clear ho1 hr1 hg1
  have S1 : Hid (Row (w1.alloc (.cells (paC (0, 0) (0, 0) A ss.length cap).toArray 56)) w1.heap.size 56 (paC (0, 0) (0, 0) A ss.length cap)) := Lib.hid (Row.new w1 56 _)
  go_wp2_with fail
  refine (c_pick g _ 2 _ (H1.out.ext (ext_alloc _ _)) (by omega)).mono ?_
  rintro e w2 ⟨v, rfl, _, hr2, hg2⟩
  have O2 := Lib.hid ((own_ext O1.out (ext_alloc _ _)).keptR (H1.out.ext (ext_alloc _ _)) ST_ne_RD hg2)
  have S2 := Lib.hid (S1.out.keptR hg2 (by omega))
  have R2 := Lib.hid ((R1.out.alloc _).keptR hg2 (by omega))
  have G2 := Lib.hid (grown_trans (grown_alloc G1.out _) hg2)
  have H2 := Lib.hid hr2
  have hz2 : w1.heap.size < w2.heap.size := S2.out.lt
  clear hr2 hg2
  by_cases hv0 : v = 0
  · have hb0 : (v == 0) = true := by simp [hv0]
    clear hv0
    go_wp2_with fail
    refine (c_somePointV g _ w2 H2.out (by omega)).mono ?_
    rintro e w3 ⟨p, rfl, hpc, hr3, hg3⟩
    have O3 := Lib.hid (O2.out.keptR H2.out ST_ne_RD hg3)
    have S3 := Lib.hid (S2.out.keptR hg3 (by omega))
    have R3 := Lib.hid (R2.out.keptR hg3 (by omega))
    have G3 := Lib.hid (grown_trans G2.out hg3)
    have H3 := Lib.hid hr3
    have hz3 : w1.heap.size < w3.heap.size := S3.out.lt
    clear hr3 hg3
    have z0 := S3.out.frozen 0
    have z1 := S3.out.frozen 1
    have c0 := S3.out.cell_of (i := 0) rfl
    have c1 := S3.out.cell_of (i := 1) rfl
    have Sa := (S3.out.set_ 0 (.int .i64 p.1))
    have Oa := (O3.out.setB S3.out ST_ne_PA 0 (.int .i64 p.1))
    have Sb := Lib.hid (Sa.set_ 1 (.int .i64 p.2))
    have Ob := Lib.hid (Oa.setB Sa ST_ne_PA 1 (.int .i64 p.2))
    have Hb := Lib.hid ((H3.out.far (p := ⟨w1.heap.size, 0, none⟩) (by simp; omega) (.int .i64 p.1)).far (p := ⟨w1.heap.size, 1, none⟩) (by simp; omega) (.int .i64 p.2))
    have Gb := Lib.hid (grown_far (grown_far G3.out (p := ⟨w1.heap.size, 0, none⟩) (by simp; omega) (.int .i64 p.1)) (p := ⟨w1.heap.size, 1, none⟩) (by simp; omega) (.int .i64 p.2))
    have Rb := Lib.hid ((R3.out.far (p := ⟨w1.heap.size, 0, none⟩) (by simp; omega) (.int .i64 p.1)).far (p := ⟨w1.heap.size, 1, none⟩) (by simp; omega) (.int .i64 p.2))
    clear Sa Oa
    go_wp2_with fail
    clear z0 z1 c0 c1
    refine (c_somePointV g _ _ Hb.out (by omega)).mono ?_
    rintro e w4 ⟨q, rfl, hqc, hr4, hg4⟩
    have O4 := Lib.hid (Ob.out.keptR Hb.out ST_ne_RD hg4)
    have S4 := Lib.hid (Sb.out.keptR hg4 (by omega))
    have R4 := Lib.hid (Rb.out.keptR hg4 (by omega))
    have G4 := Lib.hid (grown_trans Gb.out hg4)
    have H4 := Lib.hid hr4
    have hz4 : w1.heap.size < w4.heap.size := S4.out.lt
    clear hr4 hg4
    have z2 := S4.out.frozen 2
    have z3 := S4.out.frozen 3
    have y0 := R4.out.frozen 0
    have y1 := R4.out.frozen 1
    have y2 := R4.out.frozen 2
    have y3 := R4.out.frozen 3
    have y4 := R4.out.frozen 4
    have c0 := S4.out.cell_of (i := 0) rfl
    have c1 := S4.out.cell_of (i := 1) rfl
    have c2 := S4.out.cell_of (i := 2) rfl
    have c3 := S4.out.cell_of (i := 3) rfl
    have c4 := S4.out.cell_of (i := 4) rfl
    have e0 := R4.out.cell_of (i := 0) rfl
    have e1 := R4.out.cell_of (i := 1) rfl
    have e2 := R4.out.cell_of (i := 2) rfl
    have e3 := R4.out.cell_of (i := 3) rfl
    have e4 := R4.out.cell_of (i := 4) rfl
    go_wp2_with fail
    have Sa := S4.out.set_ 2 (.int .i64 q.1)
    have Ob := (O4.out.setB S4.out ST_ne_PA 2 (.int .i64 q.1)).setB Sa ST_ne_PA 3 (.int .i64 q.2)
    have Rb := (R4.out.far (p := ⟨w1.heap.size, 2, none⟩) (by simp; omega) (.int .i64 q.1)).far (p := ⟨w1.heap.size, 3, none⟩) (by simp; omega) (.int .i64 q.2)
    have Hb := (H4.out.far (p := ⟨w1.heap.size, 2, none⟩) (by simp; omega) (.int .i64 q.1)).far (p := ⟨w1.heap.size, 3, none⟩) (by simp; omega) (.int .i64 q.2)
    have Gb := grown_far (grown_far G4.out (p := ⟨w1.heap.size, 2, none⟩) (by simp; omega) (.int .i64 q.1)) (p := ⟨w1.heap.size, 3, none⟩) (by simp; omega) (.int .i64 q.2)
    exact bodyPost_ret (v := paV p q A ss.length cap) (by simp [results, Try.results81, go_sem, e0, e1, e2, e3, e4]) rfl ⟨p, q, A, cap, ss, rfl, ⟨hpc, hqc⟩, hl, hl1, Ob.setB5 Rb ST_ne_PA _ _ _ _ _, (Hb.mono (by omega)).far5 hlt _ _ _ _ _, grown_far5 Gb (Nat.le_refl _) _ _ _ _ _⟩
  · have hb0 : (v == 0) = false := by simp [hv0]
    have y0 := R2.out.frozen 0
    have y1 := R2.out.frozen 1
    have y2 := R2.out.frozen 2
    have y3 := R2.out.frozen 3
    have y4 := R2.out.frozen 4
    have c0 := S2.out.cell_of (i := 0) rfl
    have c1 := S2.out.cell_of (i := 1) rfl
    have c2 := S2.out.cell_of (i := 2) rfl
    have c3 := S2.out.cell_of (i := 3) rfl
    have c4 := S2.out.cell_of (i := 4) rfl
    have e0 := R2.out.cell_of (i := 0) rfl
    have e1 := R2.out.cell_of (i := 1) rfl
    have e2 := R2.out.cell_of (i := 2) rfl
    have e3 := R2.out.cell_of (i := 3) rfl
    have e4 := R2.out.cell_of (i := 4) rfl
    go_wp2_with fail
    exact bodyPost_ret (v := paV (0, 0) (0, 0) A ss.length cap) (by simp [results, Try.results81, go_sem, e0, e1, e2, e3, e4]) rfl ⟨(0, 0), (0, 0), A, cap, ss, rfl, ⟨crd00, crd00⟩, hl, hl1, O2.out.setB5 R2.out ST_ne_PA _ _ _ _ _, (H2.out.mono (by omega)).far5 hlt _ _ _ _ _, grown_far5 G2.out (Nat.le_refl _) _ _ _ _ _⟩
/-- A paint and where to ask for its color. -/
def DrewPaAt (w w' : World) (e : Ending) : Prop := ∃ f t : Pt, ∃ A cap, ∃ ss : List St, ∃ c r : Int, e = .returned (.tuple #[paV f t A ss.length cap, .int .i64 c, .int .i64 r]) ∧ (VpP f ∧ VpP t) ∧ ss.length ≤ 5 ∧ (-1000 ≤ c ∧ c ≤ 1000) ∧ (-1000 ≤ r ∧ r ≤ 1000) ∧ Has w' w.heap.size 64 5 (.slice A ss.length cap) ss.length (ss.flatMap stC) ∧ Ext w w'
set_option maxRecDepth 100000 in
set_option maxHeartbeats 1000000 in
theorem c_DrawPaintAt (A : Option Addr) (cap : Nat) (bs : List Int) (w : World) (h : In byteR 1 w A bs) (hc : bs.length ≤ cap) (hl : cap ≤ 9223372036854775807) :
    Calls Try.prog 41 #[.slice A bs.length cap] w fun e w' => DrewPaAt w w' e := by
  have H := Lib.hid (h.ext byteR_stab (ext_alloc w (.cells (paC (0, 0) (0, 0) none 0 0).toArray 56)))
  have R0 : Hid (Row (w.alloc (.cells (paC (0, 0) (0, 0) none 0 0).toArray 56)) w.heap.size 56 (paC (0, 0) (0, 0) none 0 0)) := Lib.hid (Row.new w 56 _)
  have B0 := Lib.hid (ext_alloc w (.cells (paC (0, 0) (0, 0) none 0 0).toArray 56))
  clear h
  go_enter Try.func41, Try.ntmps41
  go_wp2_with fail
  refine (c_newReader A cap bs _ H.out hc hl).mono ?_
  rintro e w1 ⟨g, rfl, hg0, hr1, hb1⟩
  have hg0 : w.heap.size < g := by simp at hg0; omega
  have R1 := Lib.hid (R0.out.ext hb1)
  have B1 := Lib.hid (Ext.trans B0.out hb1)
  obtain ⟨N, hN, hr1⟩ : ∃ N, N + 100 ≤ 1000000 ∧ Rdr w1 g N := ⟨0, by omega, hr1⟩
  have H1 := Lib.hid hr1
  have hg1 := hr1.lt
  clear hr1 hb1
  go_wp2_with fail
  refine (c_randomPaint g N w1 H1.out (by omega)).mono ?_
  rintro e w2 ⟨f, t, A2, cap2, ss, rfl, hft, hsl, hsl1, ho2, hr2, hg2⟩
  have R2 := Lib.hid (R1.out.keptR hg2 (by omega))
  have O2 := Lib.hid (ho2.rebase B1.out.size)
  have B2 := Lib.hid (below_grown B1.out hg2 (by omega) B1.out.size)
  have H2 := Lib.hid hr2
  have hz2 : w1.heap.size ≤ w2.heap.size := hg2.size
  have S2 : Hid (Row (w2.alloc (.cells (paC f t A2 ss.length cap2).toArray 56)) w2.heap.size 56 (paC f t A2 ss.length cap2)) := Lib.hid (Row.new w2 56 _)
  clear hr2 hg2 ho2
  go_wp2_with fail
  refine (c_pick g _ 12 _ (H2.out.ext (ext_alloc _ _)) (by omega)).mono ?_
  rintro e w3 ⟨v, rfl, _, hr3, hg3⟩
  have O3 := Lib.hid ((own_ext O2.out (ext_alloc _ _)).keptR (H2.out.ext (ext_alloc _ _)) ST_ne_RD hg3)
  have S3 := Lib.hid (S2.out.keptR hg3 (by omega))
  have R3 := Lib.hid ((R2.out.alloc _).keptR hg3 (by omega))
  have B3 := Lib.hid (below_grown (Ext.trans B2.out (ext_alloc _ _)) hg3 (by omega) (by have := B2.out.size; simp; omega))
  have H3 := Lib.hid hr3
  have hz3 : w2.heap.size < w3.heap.size := S3.out.lt
  clear hr3 hg3
  by_cases hv0 : v = 0
  · have hb0 : (v == 0) = true := by simp [hv0]
    clear hv0
    go_wp2_with fail
    refine (c_anyStops g _ w3 H3.out (by omega)).mono ?_
    rintro e w14 ⟨A4, cap4, s4, rfl, hsl4, _, ho4, hr14, hg14⟩
    have O14 := Lib.hid (ho4.rebase B3.out.size)
    have S14 := Lib.hid (S3.out.keptR hg14 (by omega))
    have R14 := Lib.hid (R3.out.keptR hg14 (by omega))
    have B14 := Lib.hid (below_grown B3.out hg14 (by omega) B3.out.size)
    have H14 := Lib.hid hr14
    have hz14 : w2.heap.size < w14.heap.size := S14.out.lt
    clear ho4 hr14 hg14
    have z4 := S14.out.frozen 4
    have c4 := S14.out.cell_of (i := 4) rfl
    have S15 := Lib.hid (S14.out.set_ 4 (.slice A4 s4.length cap4))
    have O15 := Lib.hid (O14.out.setB S14.out ST_ne_PA 4 (.slice A4 s4.length cap4))
    have R15 := Lib.hid (R14.out.far (p := ⟨w2.heap.size, 4, none⟩) (by simp; omega) (.slice A4 s4.length cap4))
    have H15 := Lib.hid (H14.out.far (p := ⟨w2.heap.size, 4, none⟩) (by simp; omega) (.slice A4 s4.length cap4))
    have B15 := Lib.hid (B14.out.setCell (p := ⟨w2.heap.size, 4, none⟩) (by simp; omega) (.slice A4 s4.length cap4))
    go_wp2_with fail
    clear z4 c4
    refine (c_anyPlace g _ _ H15.out (by omega)).mono ?_
    rintro e w4 ⟨c, rfl, hc4, hr4, hg4⟩
    have hc4 : -1000 ≤ c ∧ c ≤ 1000 := by simp at hc4; omega
    have O4 := Lib.hid (O15.out.keptR H15.out ST_ne_RD hg4)
    have S4 := Lib.hid (S15.out.keptR hg4 (by omega))
    have R4 := Lib.hid (R15.out.keptR hg4 (by omega))
    have B4 := Lib.hid (below_grown B15.out hg4 (by omega) B15.out.size)
    have H4 := Lib.hid hr4
    have hz4 : w2.heap.size < w4.heap.size := S4.out.lt
    clear hr4 hg4
    have c0 := S4.out.cell_of (i := 0) rfl
    have c1 := S4.out.cell_of (i := 1) rfl
    have c2 := S4.out.cell_of (i := 2) rfl
    have c3 := S4.out.cell_of (i := 3) rfl
    have c4 := S4.out.cell_of (i := 4) rfl
    go_wp2_with fail
    have hne : ¬ (w2.heap.size = g ∨ w2.heap.size = w.heap.size) := by omega
    refine RegG.wp_region_calm (fun i => i = g ∨ i = w.heap.size) [0,1,2] [3,4,5,6] (by kernel_rfl) (by kernel_rfl) ?_
    iterate 3 ((refine RegG.calm_yes rfl rfl (fun w' hC => (by have c0 := hC.cell c0 hne; have c1 := hC.cell c1 hne; have c2 := hC.cell c2 hne; have c3 := hC.cell c3 hne; have c4 := hC.cell c4 hne; go_simp; rfl)) (fun K hK => ?_); go_simp; refine hK _ ?_; clear hK K))
    refine RegG.calm_nil (fun w5 hC5 => ?_)
    refine RegG.late_keep rfl rfl ((RegG.Cls.refl _).ext hC5) (fun w6 hx6 hC6 K hK => ?_)
    have E6 : Ext w4 w6 := Ext.trans (ext_cls hC5) hx6
    have O6 := Lib.hid (own_ext O4.out E6)
    have R6 := Lib.hid (R4.out.ext E6)
    have B6 := Lib.hid (Ext.trans B4.out E6)
    have H6 := Lib.hid (H4.out.ext E6)
    clear hx6 E6 hC5
    go_simp
    refine (c_anyPlace g _ w6 H6.out (by omega)).mono ?_
    rintro e w7 ⟨r, rfl, hr7, hrd7, hg7⟩
    have hr7 : -1000 ≤ r ∧ r ≤ 1000 := by simp at hr7; omega
    go_simp
    refine hK _ _ (hC6.grown hg7 (.inl rfl)) (fun hC7 => ?_)
    have O7 := Lib.hid (O6.out.keptR H6.out ST_ne_RD hg7)
    have R7 := Lib.hid (R6.out.keptR hg7 (by omega))
    have B7 := Lib.hid (below_grown B6.out hg7 (by omega) B6.out.size)
    clear hK K hg7 hrd7 hC6 c0 c1 c2 c3 c4
    refine RegG.late_keep rfl rfl hC7 (fun w8 hx8 hC8 K hK => ?_)
    have R8 := R7.out.ext hx8
    have O8 := own_ext O7.out hx8
    have B8 := Ext.trans B7.out hx8
    have c0 := R8.cell_of (i := 0) rfl
    have c1 := R8.cell_of (i := 1) rfl
    have c2 := R8.cell_of (i := 2) rfl
    have c3 := R8.cell_of (i := 3) rfl
    have c4 := R8.cell_of (i := 4) rfl
    have y0 := R8.frozen 0
    have y1 := R8.frozen 1
    have y2 := R8.frozen 2
    have y3 := R8.frozen 3
    have y4 := R8.frozen 4
    go_simp
    refine hK _ _ (((((hC8.set (.inr rfl) _).set (.inr rfl) _).set (.inr rfl) _).set (.inr rfl) _).set (.inr rfl) _) (fun hC9 => ?_)
    have R9 := ((((R8.set_ 0 (.int .i64 f.1)).set_ 1 (.int .i64 f.2)).set_ 2 (.int .i64 t.1)).set_ 3 (.int .i64 t.2)).set_ 4 (.slice A4 s4.length cap4)
    have O9 := O8.setB5 R8 ST_ne_PA (.int .i64 f.1) (.int .i64 f.2) (.int .i64 t.1) (.int .i64 t.2) (.slice A4 s4.length cap4)
    have B9 := ((((B8.setCell (p := ⟨w.heap.size, 0, none⟩) (by simp) (.int .i64 f.1)).setCell (p := ⟨w.heap.size, 1, none⟩) (by simp) (.int .i64 f.2)).setCell (p := ⟨w.heap.size, 2, none⟩) (by simp) (.int .i64 t.1)).setCell (p := ⟨w.heap.size, 3, none⟩) (by simp) (.int .i64 t.2)).setCell (p := ⟨w.heap.size, 4, none⟩) (by simp) (.slice A4 s4.length cap4)
    have HR9 := Lib.hid R9
    have HO9 := Lib.hid O9
    have HB9 := Lib.hid B9
    clear R9 O9 B9 R8 O8 B8 hx8 hC8 hC9 hK K c0 c1 c2 c3 c4 y0 y1 y2 y3 y4
    refine RegG.late_free (by kernel_rfl) rfl rfl (fun w10 hx10 K hK => ?_)
    go_simp
    refine hK _ _ ?_
    clear hK K
    refine RegG.late_free (by kernel_rfl) rfl rfl (fun w11 hx11 K hK => ?_)
    go_simp
    refine hK _ _ ?_
    clear hK K
    refine RegG.late_nil (fun w12 hx12 => ?_)
    have E12 := Ext.trans (Ext.trans hx10 hx11) hx12
    have R12 := HR9.out.ext E12
    have e0 := R12.cell_of (i := 0) rfl
    have e1 := R12.cell_of (i := 1) rfl
    have e2 := R12.cell_of (i := 2) rfl
    have e3 := R12.cell_of (i := 3) rfl
    have e4 := R12.cell_of (i := 4) rfl
    have HO12 := Lib.hid (own_ext HO9.out E12)
    have HB12 := Lib.hid (Ext.trans HB9.out E12)
    clear hx10 hx11 hx12 E12 R12
    go_wp2_with fail
    exact bodyPost_ret (v := .tuple #[paV f t A4 s4.length cap4, .int .i64 c, .int .i64 r]) (by simp [results, Try.results41, go_sem, e0, e1, e2, e3, e4]) rfl ⟨f, t, A4, cap4, s4, c, r, rfl, hft, by omega, hc4, hr7, HO12.out, HB12.out⟩
  · have hb0 : (v == 0) = false := by simp [hv0]
    clear hv0
    go_wp2_with fail
    refine (c_anyPlace g _ w3 H3.out (by omega)).mono ?_
    rintro e w4 ⟨c, rfl, hc4, hr4, hg4⟩
    have hc4 : -1000 ≤ c ∧ c ≤ 1000 := by simp at hc4; omega
    have O4 := Lib.hid (O3.out.keptR H3.out ST_ne_RD hg4)
    have S4 := Lib.hid (S3.out.keptR hg4 (by omega))
    have R4 := Lib.hid (R3.out.keptR hg4 (by omega))
    have B4 := Lib.hid (below_grown B3.out hg4 (by omega) B3.out.size)
    have H4 := Lib.hid hr4
    have hz4 : w2.heap.size < w4.heap.size := S4.out.lt
    clear hr4 hg4
    have c0 := S4.out.cell_of (i := 0) rfl
    have c1 := S4.out.cell_of (i := 1) rfl
    have c2 := S4.out.cell_of (i := 2) rfl
    have c3 := S4.out.cell_of (i := 3) rfl
    have c4 := S4.out.cell_of (i := 4) rfl
    go_wp2_with fail
    have hne : ¬ (w2.heap.size = g ∨ w2.heap.size = w.heap.size) := by omega
    refine RegG.wp_region_calm (fun i => i = g ∨ i = w.heap.size) [0,1,2] [3,4,5,6] (by kernel_rfl) (by kernel_rfl) ?_
    iterate 3 ((refine RegG.calm_yes rfl rfl (fun w' hC => (by have c0 := hC.cell c0 hne; have c1 := hC.cell c1 hne; have c2 := hC.cell c2 hne; have c3 := hC.cell c3 hne; have c4 := hC.cell c4 hne; go_simp; rfl)) (fun K hK => ?_); go_simp; refine hK _ ?_; clear hK K))
    refine RegG.calm_nil (fun w5 hC5 => ?_)
    refine RegG.late_keep rfl rfl ((RegG.Cls.refl _).ext hC5) (fun w6 hx6 hC6 K hK => ?_)
    have E6 : Ext w4 w6 := Ext.trans (ext_cls hC5) hx6
    have O6 := Lib.hid (own_ext O4.out E6)
    have R6 := Lib.hid (R4.out.ext E6)
    have B6 := Lib.hid (Ext.trans B4.out E6)
    have H6 := Lib.hid (H4.out.ext E6)
    clear hx6 E6 hC5
    go_simp
    refine (c_anyPlace g _ w6 H6.out (by omega)).mono ?_
    rintro e w7 ⟨r, rfl, hr7, hrd7, hg7⟩
    have hr7 : -1000 ≤ r ∧ r ≤ 1000 := by simp at hr7; omega
    go_simp
    refine hK _ _ (hC6.grown hg7 (.inl rfl)) (fun hC7 => ?_)
    have O7 := Lib.hid (O6.out.keptR H6.out ST_ne_RD hg7)
    have R7 := Lib.hid (R6.out.keptR hg7 (by omega))
    have B7 := Lib.hid (below_grown B6.out hg7 (by omega) B6.out.size)
    clear hK K hg7 hrd7 hC6 c0 c1 c2 c3 c4
    refine RegG.late_keep rfl rfl hC7 (fun w8 hx8 hC8 K hK => ?_)
    have R8 := R7.out.ext hx8
    have O8 := own_ext O7.out hx8
    have B8 := Ext.trans B7.out hx8
    have c0 := R8.cell_of (i := 0) rfl
    have c1 := R8.cell_of (i := 1) rfl
    have c2 := R8.cell_of (i := 2) rfl
    have c3 := R8.cell_of (i := 3) rfl
    have c4 := R8.cell_of (i := 4) rfl
    have y0 := R8.frozen 0
    have y1 := R8.frozen 1
    have y2 := R8.frozen 2
    have y3 := R8.frozen 3
    have y4 := R8.frozen 4
    go_simp
    refine hK _ _ (((((hC8.set (.inr rfl) _).set (.inr rfl) _).set (.inr rfl) _).set (.inr rfl) _).set (.inr rfl) _) (fun hC9 => ?_)
    have R9 := ((((R8.set_ 0 (.int .i64 f.1)).set_ 1 (.int .i64 f.2)).set_ 2 (.int .i64 t.1)).set_ 3 (.int .i64 t.2)).set_ 4 (.slice A2 ss.length cap2)
    have O9 := O8.setB5 R8 ST_ne_PA (.int .i64 f.1) (.int .i64 f.2) (.int .i64 t.1) (.int .i64 t.2) (.slice A2 ss.length cap2)
    have B9 := ((((B8.setCell (p := ⟨w.heap.size, 0, none⟩) (by simp) (.int .i64 f.1)).setCell (p := ⟨w.heap.size, 1, none⟩) (by simp) (.int .i64 f.2)).setCell (p := ⟨w.heap.size, 2, none⟩) (by simp) (.int .i64 t.1)).setCell (p := ⟨w.heap.size, 3, none⟩) (by simp) (.int .i64 t.2)).setCell (p := ⟨w.heap.size, 4, none⟩) (by simp) (.slice A2 ss.length cap2)
    have HR9 := Lib.hid R9
    have HO9 := Lib.hid O9
    have HB9 := Lib.hid B9
    clear R9 O9 B9 R8 O8 B8 hx8 hC8 hC9 hK K c0 c1 c2 c3 c4 y0 y1 y2 y3 y4
    refine RegG.late_free (by kernel_rfl) rfl rfl (fun w10 hx10 K hK => ?_)
    go_simp
    refine hK _ _ ?_
    clear hK K
    refine RegG.late_free (by kernel_rfl) rfl rfl (fun w11 hx11 K hK => ?_)
    go_simp
    refine hK _ _ ?_
    clear hK K
    refine RegG.late_nil (fun w12 hx12 => ?_)
    have E12 := Ext.trans (Ext.trans hx10 hx11) hx12
    have R12 := HR9.out.ext E12
    have e0 := R12.cell_of (i := 0) rfl
    have e1 := R12.cell_of (i := 1) rfl
    have e2 := R12.cell_of (i := 2) rfl
    have e3 := R12.cell_of (i := 3) rfl
    have e4 := R12.cell_of (i := 4) rfl
    have HO12 := Lib.hid (own_ext HO9.out E12)
    have HB12 := Lib.hid (Ext.trans HB9.out E12)
    clear hx10 hx11 hx12 E12 R12
    go_wp2_with fail
    exact bodyPost_ret (v := .tuple #[paV f t A2 ss.length cap2, .int .i64 c, .int .i64 r]) (by simp [results, Try.results41, go_sem, e0, e1, e2, e3, e4]) rfl ⟨f, t, A2, cap2, ss, c, r, rfl, hft, by omega, hc4, hr7, HO12.out, HB12.out⟩
end Go.Proofs.Ytonilmpodijgeaa
