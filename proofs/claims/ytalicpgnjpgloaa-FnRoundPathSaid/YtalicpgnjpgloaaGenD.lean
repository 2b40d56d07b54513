/-
  Rhombs drawn.
-/
import Derived.Test.YtalicpgnjpgloaaGen
import Derived.Test.YtalicpgnjpgloaaMg4
import Derived.Test.YtalicpgnjpgloaaMg1
namespace Go.Proofs.Ytalicpgnjpgloaa
open Go Go.RowKit Reg
attribute [local go_sem] calmAt calmUpon RegG.calmAt RegG.calmUpon
/-- A point and a length drawn. -/
def DrewPR (w w' : World) (e : Ending) : Prop := ∃ (p : Pt) (r : Int), e = .returned (.tuple #[.agg #[.int .i64 p.1, .int .i64 p.2], .int .i64 r]) ∧ CrdP p ∧ ((0 ≤ r ∧ r ≤ 2000) ∧ r ∈ [(16 : Int), 40, 5, 100, 1, 0, 900, 1001]) ∧ Below w.heap.size w w'
set_option maxRecDepth 100000 in
set_option maxHeartbeats 2000000 in
theorem c_DrawRhombPath (A : Option Addr) (cap : Nat) (bs : List Int) (w : World) (h : In byteR 1 w A bs) (hc : bs.length ≤ cap) (hl : cap ≤ 9223372036854775807) :
    Calls Try.prog 32 #[.slice A bs.length cap] w fun e w' => DrewPR w w' e := by
  have H := Lib.hid h
  clear h
  go_enter Try.func32, Try.ntmps32
  go_wp2_with fail
  have E0 : Ext w (w.alloc (.cells #[.int .i64 0, .int .i64 0] 31)) := ext_alloc _ _
  have hz0 : (w.alloc (.cells #[.int .i64 0, .int .i64 0] 31)).heap.size = w.heap.size + 1 := by simp
  have R0 := Lib.hid (Row.new w 31 [.int .i64 0, .int .i64 0])
  generalize w.alloc (.cells #[.int .i64 0, .int .i64 0] 31) = wa at *
  have Ea := Lib.hid E0
  clear E0
  refine (c_newReader A cap bs wa (H.out.ext (fun _ _ _ _ h _ => h) Ea.out) hc hl).mono ?_
  rintro e w1 ⟨g, rfl, hg0, hr1, hb1⟩
  have D1 := Lib.hid hr1
  have B1 := Lib.hid (Ext.trans Ea.out hb1)
  have R1 := Lib.hid (R0.out.ext hb1)
  have hgr : w.heap.size ≠ g := by omega
  clear hr1 hb1
  go_wp2_with fail
  refine (c_anyPoint g 0 w1 D1.out (by omega)).mono ?_
  rintro e w2 ⟨p, rfl, hp, hr2, hg2⟩
  have D2 := Lib.hid hr2
  have B2 := Lib.hid (below_grown B1.out hg2 (by omega) B1.out.size)
  have R2 := Lib.hid (R1.out.keptR hg2 hgr)
  clear hr2 hg2
  go_wp2_with fail
  have hg2 := D2.out.lt
  have R5 := Row.new w2 31 [.int .i64 p.1, .int .i64 p.2]
  have c0 := R5.cell_of (i := 0) rfl
  have c1 := R5.cell_of (i := 1) rfl
  have hw2 : w.heap.size < w2.heap.size := R2.out.lt
  have hne : ¬ (w2.heap.size = g ∨ w2.heap.size = w.heap.size) := by omega
  clear R5
  refine RegG.wp_region_calm (fun i => i = g ∨ i = w.heap.size) [0,1] [2,3,4,5] (by kernel_rfl) (by kernel_rfl) ?_
  iterate 2 ((refine RegG.calm_yes rfl rfl (fun w' hC => (by have c0 := hC.cell c0 hne; have c1 := hC.cell c1 hne; go_simp; rfl)) (fun K hK => ?_); go_simp; refine hK _ ?_; clear hK K))
  refine RegG.calm_nil (fun w5 hC5 => ?_)
  refine RegG.late_keep rfl rfl ((RegG.Cls.refl _).ext hC5) (fun w6 hx6 hC6 K hK => ?_)
  have E6 : Ext w2 w6 := Ext.trans (Ext.trans (ext_alloc w2 _) (ext_cls hC5)) hx6
  clear c0 c1
  go_simp
  refine hK _ _ (hC6.ext (ext_alloc _ _)) (fun hC7 => ?_)
  clear hK K
  refine RegG.late_keep rfl rfl hC7 (fun w8 hx8 hC8 K hK => ?_)
  have E8 : Ext w2 w8 := Ext.trans (Ext.trans E6 (ext_alloc w6 _)) hx8
  have hz6 : w2.heap.size ≤ w6.heap.size := E6.size
  go_simp
  refine (c_one g _ _ 8 [16, 40, 5, 100, 1, 0, 900, 1001] w8 (D2.out.ext E8) (by omega) ((ints_new w6 _ _ rfl rfl).ext intR_stab hx8) (by simp) (by simp) (fun b off hA => by cases hA; omega)).mono ?_
  rintro e w9 ⟨r, rfl, hr, hr9, hg9⟩
  have hr' : (0 ≤ r ∧ r ≤ 2000) ∧ r ∈ [(16 : Int), 40, 5, 100, 1, 0, 900, 1001] := ⟨by simp at hr; omega, hr⟩
  have R9 := (R2.out.ext E8).keptR hg9 hgr
  have B9 := below_grown (Ext.trans B2.out E8) hg9 (by omega) (Ext.trans B2.out E8).size
  go_simp
  refine hK _ _ (hC8.grown hg9 (.inl rfl)) (fun hC9 => ?_)
  clear hK K hr9 hr
  refine RegG.late_keep rfl rfl hC9 (fun w10 hx10 hC10 K hK => ?_)
  have R10 := R9.ext hx10
  have c0 := R10.cell_of (i := 0) rfl
  have c1 := R10.cell_of (i := 1) rfl
  have y0 := R10.frozen 0
  have y1 := R10.frozen 1
  go_simp
  refine hK _ _ ((hC10.set (p := ⟨w.heap.size, 0, none⟩) (.inr rfl) _).set (p := ⟨w.heap.size, 1, none⟩) (.inr rfl) _) (fun hC11 => ?_)
  have R11 := (R10.set_ 0 (.int .i64 p.1)).set_ 1 (.int .i64 p.2)
  have B11 := ((Ext.trans B9 hx10).setCell (p := ⟨w.heap.size, 0, none⟩) (by simp) (.int .i64 p.1)).setCell (p := ⟨w.heap.size, 1, none⟩) (by simp) (.int .i64 p.2)
  clear hK K c0 c1 y0 y1
  refine RegG.late_keep rfl rfl hC11 (fun w12 hx12 hC12 K hK => ?_)
  go_simp
  refine hK _ _ hC12 (fun hC13 => ?_)
  clear hK K
  refine RegG.late_nil (fun w13 hx13 => ?_)
  have R13 := R11.ext (Ext.trans hx12 hx13)
  have e0 := R13.cell_of (i := 0) rfl
  have e1 := R13.cell_of (i := 1) rfl
  have B13 := Lib.hid (Ext.trans B11 (Ext.trans hx12 hx13))
  clear R9 R10 R11 R13 B9 B11 hx6 hx8 hx10 hx12 hx13 hC5 hC6 hC7 hC8 hC9 hC10 hC11 hC12 hC13 E6 E8 hg9
  go_wp2_with fail
  exact bodyPost_ret (v := .tuple #[.agg #[.int .i64 p.1, .int .i64 p.2], .int .i64 r]) (by simp [results, Try.results32, go_sem, e0, e1]) rfl ⟨p, r, rfl, hp, hr', B13.out⟩
set_option maxRecDepth 100000 in
set_option maxHeartbeats 2000000 in
theorem c_DrawRoundPath (A : Option Addr) (cap : Nat) (bs : List Int) (w : World) (h : In byteR 1 w A bs) (hc : bs.length ≤ cap) (hl : cap ≤ 9223372036854775807) :
    Calls Try.prog 10 #[.slice A bs.length cap] w fun e w' => DrewPR w w' e := by
  have K := Lib.hid (fun Wd (h : In byteR 1 Wd A bs) => c_DrawRhombPath A cap bs Wd h hc hl)
  have P := Lib.hid h
  have E := Lib.hid (Below.refl w.heap.size w)
  clear h
  go_enter Try.func10, Try.ntmps10
  go_wp2_with fail
  first | refine gen_calls ?_ | refine gen_code ?_ | refine gen_list ?_
  intro w0 hW
  obtain ⟨hb, hR0⟩ := new1 hW
  clear hW
  replace E := Lib.hid (Ext.trans E.out hb)
  clear hb
  have R0 := Lib.hid hR0
  have lR0 := R0.out.lt
  clear hR0
  have c0 := R0.out.cell_of (i := 0) rfl
  have zc0 := R0.out.frozen 0
  have c1 := R0.out.cell_of (i := 1) rfl
  have zc1 := R0.out.frozen 1
  go_wp2_with fail
  clear c0 zc0 c1 zc1
  refine (K.out _ (P.out.ext (fun _ _ _ _ h _ => h) E.out)).mono ?_
  rintro e w1 ⟨p, r, rfl, hp, hr, hb⟩
  replace E := Lib.hid (Ext.trans E.out hb)
  replace R0 := Lib.hid (R0.out.ext hb)
  have lR0 := R0.out.lt
  clear hb
  have c0 := R0.out.cell_of (i := 0) rfl
  have zc0 := R0.out.frozen 0
  have c1 := R0.out.cell_of (i := 1) rfl
  have zc1 := R0.out.frozen 1
  have Hr := Lib.hid hr
  clear hr
  go_wp2
  exact bodyPost_ret (v := .tuple #[.agg #[.int .i64 p.1, .int .i64 p.2], .int .i64 r]) (by simp [results, Try.results10, go_sem, c0, c1]) rfl ⟨p, r, rfl, hp, Hr.out, (E.out.setCell (by simp) _).setCell (by simp) _⟩
end Go.Proofs.Ytalicpgnjpgloaa
