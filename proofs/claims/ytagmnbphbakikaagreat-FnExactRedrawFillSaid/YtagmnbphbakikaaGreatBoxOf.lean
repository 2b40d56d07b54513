/-
  The box around points: the walks.
-/
import Derived.Test.YtagmnbphbakikaaGreatMg2
namespace Go.Proofs.YtagmnbphbakikaaGreat
open Go Go.RowKit Reg
attribute [local go_sem] calmAt calmUpon
abbrev Bx4 := Int × Int × Int × Int
def bxAdd (b : Bx4) (p : Pt) : Bx4 := (min b.1 p.1, min b.2.1 p.2, max b.2.2.1 p.1, max b.2.2.2 p.2)
def bxPt (p : Pt) : Bx4 := (p.1, p.2, p.1, p.2)
/-- The box around points. -/
def boxOfL : List Pt → Bx4
  | [] => (0, 0, 0, 0)
  | p :: ps => (p :: ps).foldl bxAdd (bxPt p)
def bxK (ps : List Pt) (k : Nat) : Bx4 := (ps.take k).foldl bxAdd (bxPt (ps.headD (0, 0)))
def bxC (b : Bx4) : List Value := [.int .i64 b.1, .int .i64 b.2.1, .int .i64 b.2.2.1, .int .i64 b.2.2.2]
abbrev bx4V (b : Bx4) : Value := .agg #[.int .i64 b.1, .int .i64 b.2.1, .int .i64 b.2.2.1, .int .i64 b.2.2.2]
theorem bxK_succ {ps : List Pt} {k : Nat} (hk : k < ps.length) : bxK ps (k + 1) = bxAdd (bxK ps k) ps[k] := by
  unfold bxK
  rw [List.take_succ_eq_append_getElem hk, List.foldl_append]
  rfl
theorem bxK_all {ps : List Pt} (h : 0 < ps.length) : bxK ps ps.length = boxOfL ps := by
  unfold bxK
  match ps, h with
  | p :: ps, _ => simp [boxOfL]
set_option maxRecDepth 100000 in
set_option maxHeartbeats 2000000 in
theorem c_boxOf (A : Option Addr) (cap : Nat) (ps : List Pt) (w : World) (h : Pts w A ps) (h0 : 0 < ps.length) (hl : ps.length ≤ 1000000000) :
    Calls Tryz.prog 129 #[.slice A ps.length cap] w fun e w' => e = .returned (bx4V (boxOfL ps)) ∧ Below w.heap.size w w' := by
  have hne : ¬ ps = [] := by intro hh; subst hh; simp at h0
  have hhd : ps.headD (0, 0) = ps[0] := by
    match ps, h0 with
    | p :: ps, _ => rfl
  obtain ⟨b, off, rfl, _hb, hc⟩ := h.pts h0
  obtain ⟨cx, cy⟩ := hc 0 h0
  have H := Lib.hid h
  have Hall := Lib.hid (bxK_all h0)
  have i0 : (0 : Int) < (ps.length : Int) := by omega
  have Hs : Hid (bxK ps 0 = (ps[0].1, ps[0].2, ps[0].1, ps[0].2)) := Lib.hid (by unfold bxK; rw [hhd]; rfl)
  clear h hc hhd
  generalize hx : ps[0].1 = x at *
  generalize hy : ps[0].2 = y at *
  simp only [Nat.zero_mul, Nat.add_zero] at cx cy
  clear hx hy
  go_enter Tryz.func129, Tryz.ntmps129
  go_wp2_with fail
  have cx' := Cls.cell (ext_alloc w (.cells #[.int .i64 0, .int .i64 0, .int .i64 0, .int .i64 0] 122)) cx
  have cy' := Cls.cell (ext_alloc w (.cells #[.int .i64 0, .int .i64 0, .int .i64 0, .int .i64 0] 122)) cy
  have Ra : Row (w.alloc (.cells #[.int .i64 0, .int .i64 0, .int .i64 0, .int .i64 0] 122)) w.heap.size 122 [.int .i64 0, .int .i64 0, .int .i64 0, .int .i64 0] := Row.new w 122 [.int .i64 0, .int .i64 0, .int .i64 0, .int .i64 0]
  have Ea := ext_alloc w (.cells #[.int .i64 0, .int .i64 0, .int .i64 0, .int .i64 0] 122)
  generalize w.alloc (.cells #[.int .i64 0, .int .i64 0, .int .i64 0, .int .i64 0] 122) = wa at *
  have RA := Lib.hid Ra
  have EA := Lib.hid Ea
  clear Ra Ea cx cy
  refine wp_region_calm [0,1,2,3,4,5,6,7,8,9,10,11,12,13,14,15,16] [17,18] (by kernel_rfl) (by kernel_rfl) ?_
  iterate 17 ((refine calm_yes rfl rfl (fun w' hC => (by have cx' := hC.cell cx'; have cy' := hC.cell cy'; go_simp; rfl)) (fun K hK => ?_); go_simp; refine hK _ ?_; clear hK K))
  refine calm_nil (fun w2 hC2 => ?_)
  refine late_keep rfl rfl hC2 (fun w3 hx3 hC3 K hK => ?_)
  go_simp
  refine hK _ _ (Below.alloc hC3 hC3.size _) (fun hC4 => ?_)
  clear hK K
  refine late_free (by kernel_rfl) rfl rfl (fun w5 hx5 K hK => ?_)
  have E3 : Ext wa w3 := Ext.trans (ext_cls hC2) hx3
  have S5 : Row w5 w3.heap.size 122 [.int .i64 0, .int .i64 0, .int .i64 0, .int .i64 0] := (Row.new w3 122 [.int .i64 0, .int .i64 0, .int .i64 0, .int .i64 0]).ext hx5
  have E5 : Ext wa w5 := Ext.trans (Ext.trans E3 (ext_alloc _ _)) hx5
  have hgb : w.heap.size < w3.heap.size := by have := RA.out.lt; have := E3.size; omega
  generalize w3.heap.size = gb at *
  have e0 := S5.cell_of (i := 0) rfl
  have e1 := S5.cell_of (i := 1) rfl
  have e2 := S5.cell_of (i := 2) rfl
  have e3 := S5.cell_of (i := 3) rfl
  have z0 := S5.frozen 0
  have z1 := S5.frozen 1
  have z2 := S5.frozen 2
  have z3 := S5.frozen 3
  go_simp
  refine hK _ _ ?_
  clear hK K
  refine late_nil (fun w6 hx6 => ?_)
  have S6 := Lib.hid (((((S5.set_ 0 (.int .i64 x)).set_ 1 (.int .i64 y)).set_ 2 (.int .i64 x)).set_ 3 (.int .i64 y)).ext hx6)
  have B6 : Hid (Ext w w6) := Lib.hid (Ext.trans (((((Ext.trans EA.out E5).setCell (p := ⟨gb, 0, none⟩) (by simp; omega) (.int .i64 x)).setCell (p := ⟨gb, 1, none⟩) (by simp; omega) (.int .i64 y)).setCell (p := ⟨gb, 2, none⟩) (by simp; omega) (.int .i64 x)).setCell (p := ⟨gb, 3, none⟩) (by simp; omega) (.int .i64 y)) hx6)
  have RA6 : Hid (Row w6 w.heap.size 122 [.int .i64 0, .int .i64 0, .int .i64 0, .int .i64 0]) := Lib.hid (((((RA.out.ext E5).far (p := ⟨gb, 0, none⟩) (by simp; omega) _).far (p := ⟨gb, 1, none⟩) (by simp; omega) _ |>.far (p := ⟨gb, 2, none⟩) (by simp; omega) _ |>.far (p := ⟨gb, 3, none⟩) (by simp; omega) _)).ext hx6)
  clear e0 e1 e2 e3 z0 z1 z2 z3 S5 E5 E3 hx3 hx5 hx6 hC2 hC3 hC4 cx' cy'
  go_wp2_with fail
  go_loopw [5, 25] (fun p i wr => ∃ k : Nat, k ≤ ps.length ∧ i = .int .i64 k ∧ Row wr gb 122 (bxC (bxK ps k)) ∧ Row wr w.heap.size 122 [.int .i64 0, .int .i64 0, .int .i64 0, .int .i64 0] ∧ Below w.heap.size w wr) (fun _ i _ => ps.length - (intOf i).toNat)
  case atStart => exact ⟨0, Nat.zero_le _, rfl, by rw [Hs.out]; exact S6.out, RA6.out, B6.out⟩
  case round =>
    obtain ⟨k, hk, rfl, hr, hr0, hbw⟩ := hrel
    have HR := Lib.hid hr
    have HR0 := Lib.hid hr0
    have hgl := hr.lt
    have hgl0 := hr0.lt
    have HB := Lib.hid hbw
    by_cases hlt : k < ps.length
    · have Hk := Lib.hid (bxK_succ hlt)
      obtain ⟨b', off', hbb, hbl, hc⟩ := (H.out.ext ptR_stab hbw).pts (by omega)
      cases hbb
      obtain ⟨cx, cy⟩ := hc k hlt
      generalize ps[k] = q at *
      generalize hbk : bxK ps k = bk at *
      have c0 := hr.cell_of (i := 0) rfl
      have c1 := hr.cell_of (i := 1) rfl
      have c2 := hr.cell_of (i := 2) rfl
      have c3 := hr.cell_of (i := 3) rfl
      have z0 := hr.frozen 0
      have z1 := hr.frozen 1
      have z2 := hr.frozen 2
      have z3 := hr.frozen 3
      have hn1 : ¬ gb = wr.heap.size := by omega
      clear hr hr0 hbw hc hbk hk
      have m0 : (if q.1 < bk.1 then q.1 else bk.1) = min bk.1 q.1 := by split <;> omega
      have m1 : (if q.2 < bk.2.1 then q.2 else bk.2.1) = min bk.2.1 q.2 := by split <;> omega
      have m2 : (if bk.2.2.1 < q.1 then q.1 else bk.2.2.1) = max bk.2.2.1 q.1 := by split <;> omega
      have m3 : (if bk.2.2.2 < q.2 then q.2 else bk.2.2.2) = max bk.2.2.2 q.2 := by split <;> omega
      have M := Lib.hid (And.intro m0 (And.intro m1 (And.intro m2 m3)))
      clear m0 m1 m2 m3
      go_wp2_with fail
      go_roundw
      case rel =>
        refine ⟨k + 1, by omega, by go_num, ?_, ?_, ?_⟩
        · rw [Hk.out]
          obtain ⟨m0, m1, m2, m3⟩ := M.out
          rw [m0, m1, m2, m3]
          exact ((((HR.out.set_ 0 _).set_ 1 _).set_ 2 _).set_ 3 _).alloc _
        · exact ((((HR0.out.far (p := ⟨gb, 0, none⟩) (by simp; omega) _).far (p := ⟨gb, 1, none⟩) (by simp; omega) _).far (p := ⟨gb, 2, none⟩) (by simp; omega) _).far (p := ⟨gb, 3, none⟩) (by simp; omega) _).alloc _
        · exact ((((HB.out.setCell (by simp; omega) _).setCell (by simp; omega) _).setCell (by simp; omega) _).setCell (by simp; omega) _).alloc (by simp; omega) _
      case measure => simp [intOf]; omega
    · obtain rfl : k = ps.length := by omega
      rw [Hall.out] at HR
      have c0 := HR.out.cell_of (i := 0) rfl
      have c1 := HR.out.cell_of (i := 1) rfl
      have c2 := HR.out.cell_of (i := 2) rfl
      have c3 := HR.out.cell_of (i := 3) rfl
      have d0 := HR0.out.cell_of (i := 0) rfl
      have d1 := HR0.out.cell_of (i := 1) rfl
      have d2 := HR0.out.cell_of (i := 2) rfl
      have d3 := HR0.out.cell_of (i := 3) rfl
      have z0 := HR0.out.frozen 0
      have z1 := HR0.out.frozen 1
      have z2 := HR0.out.frozen 2
      have z3 := HR0.out.frozen 3
      generalize hB : boxOfL ps = B at *
      have HBB := Lib.hid hB
      clear hB
      clear hr hr0 hbw hk
      go_wp2_with fail
      exact bodyPost_ret (v := bx4V B) (by simp [results, Tryz.results129, go_sem, d0, d1, d2, d3]) rfl ⟨by rw [HBB.out], (((HB.out.setCell (by simp) _).setCell (by simp) _).setCell (by simp) _).setCell (by simp) _⟩
end Go.Proofs.YtagmnbphbakikaaGreat
