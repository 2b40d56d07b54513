/-
  Rounds flattened: their boxes and areas, plainly. Nothing of a program.
-/
import Derived.Test.YtalicpgnjpgloaaRoundS
import Derived.Test.YtalicpgnjpgloaaMoveRL
import Derived.Test.YtalicpgnjpgloaaRhL
namespace Go.Proofs.Ytalicpgnjpgloaa
open Go Go.RowKit Reg
/-- The path of a round. -/
def rdV (p : Pt) (r : Int) : List Vb := rdIt (rd8 p r) 4 ++ [(4, [])]
theorem rdV_mv (p : Pt) (r : Int) : rdV p r = (rdV (0, 0) r).map (mvV p.1 p.2) := by
  simp [rdV, rdIt, rd8, mvV, moveL, mvP]; omega
theorem rdV_len (p : Pt) (r : Int) : (rdV p r).length = 6 := rfl
theorem rdV_small (p : Pt) (r : Int) : ∀ v ∈ rdV p r, v.2.length ≤ 2 := by
  intro v h
  rcases List.mem_append.1 h with h | h
  · exact rdIt_small _ _ v h
  · simp at h; subst h; simp
/-- The lengths that are drawn, and fit. -/
def rdRs : List Int := [16, 40, 5, 100, 1, 900]
/-- The polygon of a round about the origin. -/
def rdR (r : Int) : Rg := (ringsL (rdV (0, 0) r)).headD []
def rdGood (r : Int) : Bool := pathOk (rdV (0, 0) r) && decide (ringsL (rdV (0, 0) r) = [rdR r]) && decide (boxOfL (rdR r) = (-r, -r, r, r)) && decide (4 * r * r - 16 * r ≤ sumE areaE (rdR r)) && decide (sumE areaE (rdR r) ≤ 8 * r * r) &&
  decide (0 < (rdR r).length ∧ (rdR r).length ≤ 40) && (rdR r).all fun p => decide ((-r ≤ p.1 ∧ p.1 ≤ r) ∧ (-r ≤ p.2 ∧ p.2 ≤ r))
set_option maxRecDepth 100000 in
theorem rdGood_all : rdRs.all rdGood = true := by decide +kernel
def bxMv (s t : Int) (b : Bx4) : Bx4 := (b.1 + s, b.2.1 + t, b.2.2.1 + s, b.2.2.2 + t)
theorem bxAdd_mv (s t : Int) (b : Bx4) (p : Pt) : bxAdd (bxMv s t b) (mvP s t p) = bxMv s t (bxAdd b p) := by
  simp only [bxAdd, bxMv, mvP, Prod.mk.injEq]
  omega
theorem boxOfL_mv (s t : Int) {ps : List Pt} (h : 0 < ps.length) : boxOfL (moveL s t ps) = bxMv s t (boxOfL ps) := by
  have key : ∀ (ps : List Pt) (b : Bx4), (moveL s t ps).foldl bxAdd (bxMv s t b) = bxMv s t (ps.foldl bxAdd b) := by
    intro ps
    induction ps with
    | nil => intro b; rfl
    | cons p ps ih => intro b; show (moveL s t ps).foldl bxAdd (bxAdd (bxMv s t b) (mvP s t p)) = _; rw [bxAdd_mv, ih]; rfl
  cases ps with
  | nil => simp at h
  | cons p ps =>
    show boxOfL (mvP s t p :: moveL s t ps) = bxMv s t (boxOfL (p :: ps))
    simp only [boxOfL]
    exact key (p :: ps) (bxPt p)
theorem rh_in {p : Pt} {r : Int} (h : rhOk p r = true) (hr : r ∈ [(16 : Int), 40, 5, 100, 1, 0, 900, 1001]) : r ∈ rdRs := by
  unfold rhOk at h
  simp only [Bool.and_eq_true, inB_iff] at h
  simp only [List.mem_cons, List.not_mem_nil, or_false] at hr
  simp only [rdRs, List.mem_cons, List.not_mem_nil, or_false]
  omega
/-- What holds of a round that fits. -/
theorem rd_facts {p : Pt} {r : Int} (h : rhOk p r = true) (hr : r ∈ [(16 : Int), 40, 5, 100, 1, 0, 900, 1001]) :
    ∃ ps : List Pt, ringsV (rdV p r) = [ps] ∧ pathOk (rdV p r) = true ∧ (0 < ps.length ∧ ps.length ≤ 40) ∧ boxOk1 ps = true ∧ boxR ps = (p.1 - r, p.2 - r, p.1 + r, p.2 + r) ∧ 4 * r * r - 16 * r ≤ areaR [ps] ∧ areaR [ps] ≤ 8 * r * r := by
  have hg := List.all_eq_true.1 rdGood_all _ (rh_in h hr)
  unfold rdGood at hg
  simp only [Bool.and_eq_true, decide_eq_true_eq, List.all_eq_true] at hg
  obtain ⟨⟨⟨⟨⟨⟨g1, g2⟩, g3⟩, g4⟩, g5⟩, g6⟩, g7⟩ := hg
  unfold rhOk at h
  simp only [Bool.and_eq_true, inB_iff] at h
  obtain ⟨⟨hv, hr1⟩, hps⟩ := h
  have hv2 := vpB_iff.1 hv
  have hc : (-1000 ≤ p.1 - r ∧ p.1 + r ≤ 1000) ∧ (-1000 ≤ p.2 - r ∧ p.2 + r ≤ 1000) := by
    have k1 := vp_of hps (p := (p.1, p.2 - r)) (by simp [rhPts])
    have k2 := vp_of hps (p := (p.1 + r, p.2)) (by simp [rhPts])
    have k3 := vp_of hps (p := (p.1, p.2 + r)) (by simp [rhPts])
    have k4 := vp_of hps (p := (p.1 - r, p.2)) (by simp [rhPts])
    dsimp only at k1 k2 k3 k4
    omega
  have hok : pathOk (rdV p r) = true := by
    rw [rdV_mv, pathOk_moved g1]
    unfold movesOk
    simp [rdV, rdIt, rd8, moveL, mvP, psB, vpB_iff]
    omega
  have hvp : psB (moveL p.1 p.2 (rdR r)) = true := by
    unfold psB
    simp only [Bool.and_eq_true, List.all_eq_true, decide_eq_true_eq]
    refine ⟨fun q hq => ?_, by rw [moveL_len]; omega⟩
    obtain ⟨q0, hq0, rfl⟩ := List.mem_map.1 hq
    have := g7 q0 hq0
    rw [vpB_iff]
    unfold mvP
    dsimp only
    omega
  have hrg : rgsB [moveL p.1 p.2 (rdR r)] = true := by
    rw [rgsB_iff]
    refine ⟨fun q hq => ?_, by simp, by simp [corners, moveL_len]; omega⟩
    simp at hq
    subst hq
    exact ⟨by rw [moveL_len]; omega, hvp⟩
  have hbk : boxOk1 (moveL p.1 p.2 (rdR r)) = true := by
    unfold boxOk1
    simp only [Bool.and_eq_true, decide_eq_true_eq]
    exact ⟨hvp, by rw [moveL_len]; omega⟩
  have ha : areaR [moveL p.1 p.2 (rdR r)] = sumE areaE (rdR r) := by
    unfold areaR areaL
    rw [if_pos hrg, sumS_one]
    exact area_move p.1 p.2 (rdR r)
  refine ⟨moveL p.1 p.2 (rdR r), ?_, hok, by rw [moveL_len]; exact g6, hbk, ?_, by rw [ha]; exact g4, by rw [ha]; exact g5⟩
  · rw [ringsV_yes hok, rdV_mv, ringsL_mv g1, g2]; rfl
  · unfold boxR
    rw [if_pos hbk, boxOfL_mv _ _ g6.1, g3]
    simp only [bxMv, Prod.mk.injEq]
    omega
end Go.Proofs.Ytalicpgnjpgloaa
