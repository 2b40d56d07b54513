/-
  Several texts in one: StopC, StopW, StopW2.
-/
import Derived.Test.YtagmnbphbakikaaGreatMg19
import Derived.Test.YtagmnbphbakikaaGreatMg3
namespace Go.Proofs.YtagmnbphbakikaaGreat
open Go Go.RowKit Reg
attribute [local go_sem] calmAt calmUpon
def stAt (ss : List St) (i : Nat) : St := ss.getD i (0, 0, 0, 0, 0)
/-- The color between stop i - 1 and stop i. -/
def segL (ss : List St) (t : Int) (i : Nat) : Bx4 := mixL (stAt ss (i - 1)).2 (stAt ss i).2 (256 * (t - (stAt ss (i - 1)).1) / ((stAt ss i).1 - (stAt ss (i - 1)).1))
/-- As the reference finds it. -/
def stopL (ss : List St) (t : Int) : Bx4 :=
  if t ≤ (stAt ss 0).1 then (stAt ss 0).2
  else match (List.range ss.length).find? (fun i => decide (0 < i ∧ t ≤ (stAt ss i).1)) with
    | some i => segL ss t i
    | none => (stAt ss (ss.length - 1)).2
theorem stAt_eq {ss : List St} {k : Nat} (hk : k < ss.length) : stAt ss k = ss[k] := by
  unfold stAt; rw [List.getD_eq_getElem?_getD, List.getElem?_eq_getElem hk]; rfl
theorem rnd_whole (x : Int) : rndL (x * 256) 256 = x := by unfold rndL; omega
theorem mixL_0 (a b : Bx4) : mixL a b 0 = a := by
  unfold mixL mixG
  simp only [Int.sub_zero, Int.mul_zero, Int.add_zero, rnd_whole]
theorem mixL_256 (a b : Bx4) : mixL a b 256 = b := by
  unfold mixL mixG
  simp only [Int.sub_self, Int.mul_zero, Int.zero_add, rnd_whole]
theorem st_rise {ss : List St} (h : stB ss = true) {k : Nat} (hk : k + 1 < ss.length) : (stAt ss k).1 < (stAt ss (k + 1)).1 := by
  have := (stB_at h hk).1
  rw [lastAt_succ (by omega)] at this
  rw [stAt_eq (by omega), stAt_eq hk]; omega
theorem stopL_first {ss : List St} {t : Int} (h : t ≤ (stAt ss 0).1) : stopL ss t = (stAt ss 0).2 := by unfold stopL; rw [if_pos h]
theorem stopL_seg {ss : List St} {t : Int} {i : Nat} (h0 : ¬ t ≤ (stAt ss 0).1) (hi : 0 < i) (hl : i < ss.length) (hb : ∀ j, 0 < j → j < i → ¬ t ≤ (stAt ss j).1) (ht : t ≤ (stAt ss i).1) : stopL ss t = segL ss t i := by
  unfold stopL
  rw [if_neg h0]
  have : (List.range ss.length).find? (fun i => decide (0 < i ∧ t ≤ (stAt ss i).1)) = some i := by
    rw [List.find?_range_eq_some]
    refine ⟨by simp [hi, ht], by simpa using hl, fun j hj => ?_⟩
    rcases Nat.eq_zero_or_pos j with h | h
    · simp [h]
    · have := hb j h hj; simp; omega
  rw [this]
theorem stopL_last {ss : List St} {t : Int} (h0 : ¬ t ≤ (stAt ss 0).1) (hb : ∀ j, 0 < j → j < ss.length → ¬ t ≤ (stAt ss j).1) : stopL ss t = (stAt ss (ss.length - 1)).2 := by
  unfold stopL
  rw [if_neg h0]
  have : (List.range ss.length).find? (fun i => decide (0 < i ∧ t ≤ (stAt ss i).1)) = none := by
    rw [List.find?_eq_none]
    intro j hj
    rcases Nat.eq_zero_or_pos j with h | h
    · simp [h]
    · have := hb j h (by simpa using hj); simp; omega
  rw [this]
theorem seg_end {ss : List St} {t : Int} {i : Nat} (h : stB ss = true) (hl : i + 1 < ss.length) (ht : t = (stAt ss (i + 1)).1) : segL ss t (i + 1) = (stAt ss (i + 1)).2 := by
  have := st_rise h hl
  unfold segL
  rw [Nat.add_sub_cancel, ht, Int.mul_ediv_cancel _ (by omega), mixL_256]
theorem seg_start {ss : List St} {t : Int} {i : Nat} (ht : t = (stAt ss i).1) : segL ss t (i + 1) = (stAt ss i).2 := by
  unfold segL
  rw [Nat.add_sub_cancel, ht, Int.sub_self, Int.mul_zero, Int.zero_ediv, mixL_0]
/-- As the program finds it: the first stop that t is less than. -/
theorem stopL_impl {ss : List St} {t : Int} {k : Nat} (h : stB ss = true) (h0 : ¬ t ≤ (stAt ss 0).1) (hl : k + 1 < ss.length) (hb : ∀ j, 0 < j → j ≤ k → ¬ t < (stAt ss j).1) (ht : t < (stAt ss (k + 1)).1) : stopL ss t = segL ss t (k + 1) := by
  by_cases he : 0 < k ∧ t = (stAt ss k).1
  · obtain ⟨hk, he⟩ := he
    rw [seg_start he]
    obtain ⟨m, rfl⟩ : ∃ m, k = m + 1 := ⟨k - 1, by omega⟩
    rw [stopL_seg (i := m + 1) h0 (by omega) (by omega) (fun j hj hj2 => ?_) (by omega)]
    · exact seg_end h (by omega) he
    · have h1 := hb j hj (by omega)
      have key : ∀ d j, j + d + 1 < ss.length → (stAt ss j).1 < (stAt ss (j + d + 1)).1 := by
        intro d
        induction d with
        | zero => intro j hj; exact st_rise h hj
        | succ d ih => intro j hj; have := ih j (by omega); have := st_rise h (k := j + d + 1) (by omega); rw [show j + (d + 1) + 1 = j + d + 1 + 1 by omega]; omega
      have := key (m - j) j (by omega)
      rw [show j + (m - j) + 1 = m + 1 by omega] at this
      omega
  · refine stopL_seg h0 (by omega) hl (fun j hj hj2 => ?_) (by omega)
    have h1 := hb j hj (by omega)
    by_cases hjk : j = k
    · subst hjk; omega
    · have key : ∀ d j, j + d + 1 < ss.length → (stAt ss j).1 < (stAt ss (j + d + 1)).1 := by
        intro d
        induction d with
        | zero => intro j hj; exact st_rise h hj
        | succ d ih => intro j hj; have := ih j (by omega); have := st_rise h (k := j + d + 1) (by omega); rw [show j + (d + 1) + 1 = j + d + 1 + 1 by omega]; omega
      have h2 := key (k - j - 1) j (by omega)
      rw [show j + (k - j - 1) + 1 = k by omega] at h2
      have := hb k (by omega) (Nat.le_refl _)
      omega
theorem stopL_impl_last {ss : List St} {t : Int} (h : stB ss = true) (h0 : ¬ t ≤ (stAt ss 0).1) (hb : ∀ j, 0 < j → j < ss.length → ¬ t < (stAt ss j).1) : stopL ss t = (stAt ss (ss.length - 1)).2 := by
  have hn := (stB_len h).1
  by_cases he : 1 < ss.length ∧ t = (stAt ss (ss.length - 1)).1
  · obtain ⟨h1, he⟩ := he
    obtain ⟨m, hm⟩ : ∃ m, ss.length = m + 2 := ⟨ss.length - 2, by omega⟩
    have e : ss.length - 1 = m + 1 := by omega
    rw [e] at he ⊢
    rw [stopL_seg (i := m + 1) h0 (by omega) (by omega) (fun j hj hj2 => ?_) (by omega)]
    · exact seg_end h (by omega) he
    · have key : ∀ d j, j + d + 1 < ss.length → (stAt ss j).1 < (stAt ss (j + d + 1)).1 := by
        intro d
        induction d with
        | zero => intro j hj; exact st_rise h hj
        | succ d ih => intro j hj; have := ih j (by omega); have := st_rise h (k := j + d + 1) (by omega); rw [show j + (d + 1) + 1 = j + d + 1 + 1 by omega]; omega
      have := key (m - j) j (by omega)
      rw [show j + (m - j) + 1 = m + 1 by omega] at this
      omega
  · refine stopL_last h0 (fun j hj hj2 => ?_)
    have h1 := hb j hj hj2
    by_cases hjk : j = ss.length - 1
    · subst hjk; omega
    · have key : ∀ d j, j + d + 1 < ss.length → (stAt ss j).1 < (stAt ss (j + d + 1)).1 := by
        intro d
        induction d with
        | zero => intro j hj; exact st_rise h hj
        | succ d ih => intro j hj; have := ih j (by omega); have := st_rise h (k := j + d + 1) (by omega); rw [show j + (d + 1) + 1 = j + d + 1 + 1 by omega]; omega
      have h2 := key (ss.length - 1 - j - 1) j (by omega)
      rw [show j + (ss.length - 1 - j - 1) + 1 = ss.length - 1 by omega] at h2
      have := hb (ss.length - 1) (by omega) (by omega)
      omega
theorem seg_q {a b t : Int} (h1 : a ≤ t) (h2 : t ≤ b) (h3 : a < b) : 0 ≤ 256 * (t - a) / (b - a) ∧ 256 * (t - a) / (b - a) ≤ 256 := by
  refine ⟨Int.ediv_nonneg (by omega) (by omega), ?_⟩
  exact Int.ediv_le_of_le_mul (by omega) (by
    have := Int.mul_le_mul_of_nonneg_left (show t - a ≤ b - a by omega) (show (0 : Int) ≤ 256 by decide)
    omega)
end Go.Proofs.YtagmnbphbakikaaGreat
namespace Go.Proofs.YtagmnbphbakikaaGreat
open Go Go.RowKit Reg
attribute [local go_sem] calmAt calmUpon
set_option maxRecDepth 100000 in
set_option maxHeartbeats 8000000 in
theorem c_istopColor (A : Option Addr) (cap : Nat) (ss : List St) (t : Int) (w : World) (h : Sts w A ss) (hv : stB ss = true) (hcap : ss.length ≤ cap) (ht : -1000000 ≤ t ∧ t ≤ 1000000) :
    Calls Tryz.prog 160 #[.slice A ss.length cap, .int .i64 t] w fun e w' => e = .returned (bx4V (stopL ss t)) ∧ Below w.heap.size w w' := by
  obtain ⟨hn1, hn4⟩ := stB_len hv
  obtain ⟨t0, t1⟩ := ht
  obtain ⟨M, hM⟩ : ∃ M, stopL ss t = M := ⟨_, rfl⟩
  rw [hM]
  have HM := Lib.hid hM
  have Hv := Lib.hid hv
  have H := Lib.hid h
  obtain ⟨b, off, rfl, hbl, hc⟩ := h.sts (by omega)
  have Hc := Lib.hid hc
  have hne : ¬ ss = [] := by intro hh; subst hh; simp at hn1
  obtain ⟨c0, c1, c2, c3, c4⟩ := hc 0 (by omega)
  have H0 : Hid (stAt ss 0 = ss[0]) := Lib.hid (stAt_eq (by omega))
  simp only [Nat.zero_mul, Nat.add_zero] at c0 c1 c2 c3 c4
  have i0 : (0 : Int) < (ss.length : Int) := by omega
  obtain ⟨o', ho', hoe⟩ := subA_some b off cap 1 5
  have hs1 : ∀ W, (Instr.slice 46 (.slice (some ⟨b, off, none⟩) ss.length cap) (some (.int .i64 1)) none none).run Tryz.prog W = .ok (.slice (some ⟨b, o', none⟩) (ss.length - 1) (cap - 1)) W := fun W => by
    rw [← ho']; exact run_slice_lo ei_st _ _ _ 1 _ rfl (by omega) W
  have R0 : Hid (Row (w.alloc (.cells #[.int .i64 0, .int .i64 0, .int .i64 0, .int .i64 0] 118)) w.heap.size 118 [.int .i64 0, .int .i64 0, .int .i64 0, .int .i64 0]) := Lib.hid (Row.new w 118 [.int .i64 0, .int .i64 0, .int .i64 0, .int .i64 0])
  have E0 := Lib.hid (ext_alloc w (.cells #[.int .i64 0, .int .i64 0, .int .i64 0, .int .i64 0] 118))
  have Hoe := Lib.hid hoe
  clear hM hv h hc ho' hoe
  by_cases hf : t ≤ (stAt ss 0).1
  · have Hfin : Hid (M = (stAt ss 0).2) := Lib.hid (by rw [← HM.out, stopL_first hf])
    rw [H0.out] at hf Hfin
    generalize ss[0] = s0 at *
    obtain ⟨at0, q1, q2, q3, q4⟩ := s0
    dsimp only at c0 c1 c2 c3 c4 hf Hfin
    clear hs1 H0
    go_enter Tryz.func160, Tryz.ntmps160
    go_wp2_with fail
    rw [Hfin.out]
    exact bodyPost_ret (v := bx4V (q1, q2, q3, q4)) (by simp [results, Tryz.results160, go_sem]) rfl ⟨rfl, (by repeat (first | exact Below.refl _ _ | assumption | refine Below.drew ?_ | refine Below.alloc ?_ (by first | exact Nat.le_refl _ | omega | (simp; done) | (simp; omega)) _ | refine Below.setCell ?_ (by first | exact Nat.le_refl _ | omega | (simp; done) | (simp; omega)) _))⟩
  · have Hf := Lib.hid hf
    have hf' : ¬ t ≤ ss[0].1 := by rw [← H0.out]; exact hf
    generalize ss[0] = s0 at *
    clear hf
    go_enter Tryz.func160, Tryz.ntmps160
    go_wp2_with fail
    go_loopw [5, 6, 7, 21] (fun _ _ _ i wr => ∃ k : Nat, k ≤ ss.length - 1 ∧ i = .int .i64 k ∧ (∀ j, 0 < j → j ≤ k → ¬ t < (stAt ss j).1) ∧ Row wr w.heap.size 118 [.int .i64 0, .int .i64 0, .int .i64 0, .int .i64 0] ∧ Below w.heap.size w wr) (fun _ _ _ i _ => ss.length - (intOf i).toNat)
    case atStart => exact ⟨0, Nat.zero_le _, rfl, fun j h1 h2 => by omega, R0.out, E0.out⟩
    case round =>
      obtain ⟨k, hk, rfl, hno, hr, hbw⟩ := hrel
      have Hno := Lib.hid hno
      have HR := Lib.hid hr
      have HB := Lib.hid hbw
      have hgl := hr.lt
      clear c0 c1 c2 c3 c4
      by_cases hlt : k < ss.length - 1
      · have hoe := Hoe.out (by omega)
        obtain ⟨a0, a1, a2, a3, a4⟩ := Hc.out k (by omega)
        obtain ⟨d0, d1, d2, d3, d4⟩ := Hc.out (k + 1) (by omega)
        have eo : off + (k + 1) * 5 = o' + k * 5 := by omega
        rw [eo] at d0 d1 d2 d3 d4
        clear hoe
        have hst1 : stAt ss k = ss[k] := stAt_eq (by omega)
        have hst2 : stAt ss (k + 1) = ss[k + 1] := stAt_eq (by omega)
        have hrise := st_rise Hv.out (k := k) (by omega)
        have hb1 := stB_at Hv.out (k := k) (by omega)
        have hb2 := stB_at Hv.out (k := k + 1) (by omega)
        have hlb := (lastAt_bd (stB_to Hv.out) (Nat.le_refl _)).1
        have hlow : -1 ≤ lastAt ss k := (lastAt_bd (fun i hi => stB_to Hv.out i (by omega)) (show k ≤ ss.length by omega)).1
        have htk : (stAt ss k).1 ≤ t := by
          rcases Nat.eq_zero_or_pos k with h0 | h0
          · subst h0; have := Hf.out; omega
          · have := Hno.out k h0 (Nat.le_refl _); omega
        have Hseg : Hid (segL ss t (k + 1) = mixL (stAt ss k).2 (stAt ss (k + 1)).2 (256 * (t - (stAt ss k).1) / ((stAt ss (k + 1)).1 - (stAt ss k).1))) := Lib.hid (by unfold segL; rw [Nat.add_sub_cancel])
        have Himp : Hid (t < (stAt ss (k + 1)).1 → stopL ss t = segL ss t (k + 1)) := Lib.hid (fun hlt' => stopL_impl Hv.out (by have := Hf.out; omega) (by omega) (fun j h1 h2 => Hno.out j h1 h2) hlt')
        have Hstep : Hid (¬ t < (stAt ss (k + 1)).1 → ∀ j, 0 < j → j ≤ k + 1 → ¬ t < (stAt ss j).1) := Lib.hid (fun hn j h1 h2 => by
          by_cases hj : j = k + 1
          · subst hj; exact hn
          · exact Hno.out j h1 (by omega))
        rw [hst1, hst2] at hrise Hseg
        rw [hst1] at htk
        rw [hst2] at Himp Hstep
        have a0 := Cls.cell hbw a0
        have a1 := Cls.cell hbw a1
        have a2 := Cls.cell hbw a2
        have a3 := Cls.cell hbw a3
        have a4 := Cls.cell hbw a4
        have d0 := Cls.cell hbw d0
        have d1 := Cls.cell hbw d1
        have d2 := Cls.cell hbw d2
        have d3 := Cls.cell hbw d3
        have d4 := Cls.cell hbw d4
        generalize ss[k] = sa at *
        generalize ss[k + 1] = sb at *
        obtain ⟨pa, x1, x2, x3, x4⟩ := sa
        obtain ⟨pb, y1, y2, y3, y4⟩ := sb
        dsimp only at a0 a1 a2 a3 a4 d0 d1 d2 d3 d4 hrise htk hb1 hb2 Hseg Himp Hstep
        obtain ⟨⟨g1, g2⟩, hca⟩ := hb1
        obtain ⟨⟨g3, g4⟩, hcb⟩ := hb2
        have hbl2 : b < wr.heap.size := by have := hbw.size; omega
        have Hca := Lib.hid hca
        have Hcb := Lib.hid hcb
        have hltI : (k : Int) < ((ss.length - 1 : Nat) : Int) := by omega
        have hltJ : (k : Int) < (ss.length : Int) := by omega
        clear hst1 hst2 eo hno hr hbw hca hcb hlb
        by_cases hlt2 : t < pb
        · have Hres := Lib.hid (Himp.out hlt2)
          have Hq := Lib.hid (seg_q (b := pb) htk (by omega) hrise)
          go_wp2_with fail
          have f1 : IntKind.i64.wrap (t - pa) = t - pa := IntWalk.i64_in _ (by omega)
          have f2 : IntKind.i64.wrap (256 * (t - pa)) = 256 * (t - pa) := IntWalk.i64_in _ (by omega)
          have f3 : IntKind.i64.wrap (pb - pa) = pb - pa := IntWalk.i64_in _ (by omega)
          have N := Lib.hid (fun W => c_floor (256 * (t - pa)) (pb - pa) W (by omega) (by omega) (by omega) (by omega))
          generalize hW : (wr.alloc (.cells #[.int .i64 pb, .int .i64 y1, .int .i64 y2, .int .i64 y3, .int .i64 y4] 168)).alloc (.cells #[.int .i64 pa, .int .i64 x1, .int .i64 x2, .int .i64 x3, .int .i64 x4] 168) = wa
          have EA : Hid (Ext wr wa) := Lib.hid (by rw [← hW]; exact (by repeat (first | exact Below.refl _ _ | assumption | refine Below.drew ?_ | refine Below.alloc ?_ (by first | exact Nat.le_refl _ | omega | (simp; done) | (simp; omega)) _ | refine Below.setCell ?_ (by first | exact Nat.le_refl _ | omega | (simp; done) | (simp; omega)) _)))
          have B1 : Row wa wr.heap.size 168 [.int .i64 pb, .int .i64 y1, .int .i64 y2, .int .i64 y3, .int .i64 y4] := by rw [← hW]; exact (Row.new wr 168 [.int .i64 pb, .int .i64 y1, .int .i64 y2, .int .i64 y3, .int .i64 y4]).alloc _
          have B2 : Row wa (wr.heap.size + 1) 168 [.int .i64 pa, .int .i64 x1, .int .i64 x2, .int .i64 x3, .int .i64 x4] := by
            rw [← hW]
            have := Row.new (wr.alloc (.cells #[.int .i64 pb, .int .i64 y1, .int .i64 y2, .int .i64 y3, .int .i64 y4] 168)) 168 [.int .i64 pa, .int .i64 x1, .int .i64 x2, .int .i64 x3, .int .i64 x4]
            simpa using this
          clear hW a0 a1 a2 a3 a4 d0 d1 d2 d3 d4 hs1
          have a0 := B2.cell_of (i := 0) rfl
          have a1 := B2.cell_of (i := 1) rfl
          have a2 := B2.cell_of (i := 2) rfl
          have a3 := B2.cell_of (i := 3) rfl
          have a4 := B2.cell_of (i := 4) rfl
          have d0 := B1.cell_of (i := 0) rfl
          have d1 := B1.cell_of (i := 1) rfl
          have d2 := B1.cell_of (i := 2) rfl
          have d3 := B1.cell_of (i := 3) rfl
          have d4 := B1.cell_of (i := 4) rfl
          clear B1 B2
          refine wp_region_calm [0,1,2,3,4,5,6,7,8,9,10,11,12,13,14,15] [16] (by kernel_rfl) (by kernel_rfl) ?_
          iterate 14 ((refine calm_yes rfl rfl (fun w' hC => (by have a0 := hC.cell a0; have a1 := hC.cell a1; have a2 := hC.cell a2; have a3 := hC.cell a3; have a4 := hC.cell a4; have d0 := hC.cell d0; have d1 := hC.cell d1; have d2 := hC.cell d2; have d3 := hC.cell d3; have d4 := hC.cell d4; go_simp; rfl)) (fun K hK => ?_); go_simp; refine hK _ ?_; clear hK K))
          (apply calm_call rfl rfl rfl Tryz.func167 (by kernel_rfl) rfl (by go_simp; rfl); exact (fun w' hC => ext_of_same (N.out w')); intro K hK; go_simp; refine hK _ ?_; clear hK K)
          (apply calm_call rfl rfl rfl Tryz.func183 (by kernel_rfl) rfl (by go_simp; rfl); exact (fun w' hC => c_MixColor (x1, x2, x3, x4) (y1, y2, y3, y4) _ w' Hca.out Hcb.out Hq.out); intro K hK; go_simp; refine hK _ ?_; clear hK K)
          clear f1 f2 f3 a0 a1 a2 a3 a4 d0 d1 d2 d3 d4
          have Hm2 : Hid (mixL (x1, x2, x3, x4) (y1, y2, y3, y4) (256 * (t - pa) / (pb - pa)) = M) := Lib.hid (by rw [← HM.out, Hres.out, Hseg.out])
          rw [Hm2.out]
          obtain ⟨m1, m2, m3, m4⟩ := M
          refine calm_nil (fun w2 hC2 => ?_)
          refine late_free (by kernel_rfl) rfl rfl (fun w3 hx3 K' hK => ?_)
          have E3 : Ext wa w3 := Ext.trans (ext_cls hC2) hx3
          have S3 := HR.out.ext (Ext.trans EA.out E3)
          have B3 := below_ext HB.out (Ext.trans EA.out E3)
          have e0 := S3.cell_of (i := 0) rfl
          have e1 := S3.cell_of (i := 1) rfl
          have e2 := S3.cell_of (i := 2) rfl
          have e3 := S3.cell_of (i := 3) rfl
          have z0 := S3.frozen 0
          have z1 := S3.frozen 1
          have z2 := S3.frozen 2
          have z3 := S3.frozen 3
          go_simp
          refine hK _ _ ?_
          clear hK K'
          refine late_nil (fun w4 hx4 => ?_)
          have S4 := (((((S3.set_ 0 (.int .i64 m1)).set_ 1 (.int .i64 m2)).set_ 2 (.int .i64 m3)).set_ 3 (.int .i64 m4))).ext hx4
          have B4 : Ext w w4 := Ext.trans ((((B3.setCell (by simp) _).setCell (by simp) _).setCell (by simp) _).setCell (by simp) _) hx4
          have g0 := S4.cell_of (i := 0) rfl
          have g1 := S4.cell_of (i := 1) rfl
          have g2 := S4.cell_of (i := 2) rfl
          have g3 := S4.cell_of (i := 3) rfl
          clear e0 e1 e2 e3 z0 z1 z2 z3 S3 E3 hx3 hx4 hC2
          go_wp2_with fail
          exact bodyPost_ret (v := bx4V (m1, m2, m3, m4)) (by simp [results, Tryz.results160, go_sem, g0, g1, g2, g3]) rfl ⟨rfl, B4⟩
        · have Hst := Lib.hid (Hstep.out hlt2)
          go_wp2_with fail
          go_roundw
          case rel => exact ⟨k + 1, by omega, by go_num, Hst.out, (HR.out.alloc _).alloc _, (HB.out.alloc (by omega) _).alloc (by simp; omega) _⟩
          case measure => simp [intOf]; omega
      · obtain rfl : k = ss.length - 1 := by omega
        obtain ⟨d0, d1, d2, d3, d4⟩ := Hc.out (ss.length - 1) (by omega)
        have Hfin : Hid (M = (stAt ss (ss.length - 1)).2) := Lib.hid (by rw [← HM.out, stopL_impl_last Hv.out (by have := Hf.out; omega) (fun j h1 h2 => Hno.out j h1 (by omega))])
        have hst1 : stAt ss (ss.length - 1) = ss[ss.length - 1] := stAt_eq (by omega)
        rw [hst1] at Hfin
        have d1 := Cls.cell hbw d1
        have d2 := Cls.cell hbw d2
        have d3 := Cls.cell hbw d3
        have d4 := Cls.cell hbw d4
        have hp1 : 1 ≤ ss.length := hn1
        have hltI : ¬ (((ss.length - 1 : Nat) : Nat) : Int) < ((ss.length - 1 : Nat) : Int) := by omega
        generalize ss[ss.length - 1] = sa at *
        obtain ⟨pa, x1, x2, x3, x4⟩ := sa
        dsimp only at d1 d2 d3 d4 Hfin
        clear d0 hst1 hno hr hbw hs1
        have e0 := HR.out.cell_of (i := 0) rfl
        have e1 := HR.out.cell_of (i := 1) rfl
        have e2 := HR.out.cell_of (i := 2) rfl
        have e3 := HR.out.cell_of (i := 3) rfl
        have z0 := HR.out.frozen 0
        have z1 := HR.out.frozen 1
        have z2 := HR.out.frozen 2
        have z3 := HR.out.frozen 3
        have e9 : ((ss.length : Int) - 1).toNat = ss.length - 1 := by omega
        go_wp2_with fail
        rw [Hfin.out]
        exact bodyPost_ret (v := bx4V (x1, x2, x3, x4)) (by simp [results, Tryz.results160, go_sem, e0, e1, e2, e3]) rfl ⟨rfl, (((HB.out.setCell (by simp) _).setCell (by simp) _).setCell (by simp) _).setCell (by simp) _⟩
end Go.Proofs.YtagmnbphbakikaaGreat
namespace Go.Proofs.YtagmnbphbakikaaGreat
open Go Go.RowKit Reg
attribute [local go_sem] calmAt calmUpon
set_option maxRecDepth 100000 in
set_option maxHeartbeats 8000000 in
theorem c_sstopColor (A : Option Addr) (cap : Nat) (ss : List St) (t : Int) (w : World) (h : Sts w A ss) (hv : stB ss = true) (hcap : ss.length ≤ cap) (ht : -1000000 ≤ t ∧ t ≤ 1000000) :
    Calls Tryz.prog 145 #[.slice A ss.length cap, .int .i64 t] w fun e w' => e = .returned (bx4V (stopL ss t)) ∧ Below w.heap.size w w' := by
  obtain ⟨hn1, hn4⟩ := stB_len hv
  obtain ⟨t0, t1⟩ := ht
  obtain ⟨M, hM⟩ : ∃ M, stopL ss t = M := ⟨_, rfl⟩
  rw [hM]
  have HM := Lib.hid hM
  have Hv := Lib.hid hv
  have H := Lib.hid h
  obtain ⟨b, off, rfl, hbl, hc⟩ := h.sts (by omega)
  have Hc := Lib.hid hc
  have hne : ¬ ss = [] := by intro hh; subst hh; simp at hn1
  obtain ⟨c0, c1, c2, c3, c4⟩ := hc 0 (by omega)
  have H0 : Hid (stAt ss 0 = ss[0]) := Lib.hid (stAt_eq (by omega))
  simp only [Nat.zero_mul, Nat.add_zero] at c0 c1 c2 c3 c4
  have i0 : (0 : Int) < (ss.length : Int) := by omega
  have R0 : Hid (Row (w.alloc (.cells #[.int .i64 0, .int .i64 0, .int .i64 0, .int .i64 0] 118)) w.heap.size 118 [.int .i64 0, .int .i64 0, .int .i64 0, .int .i64 0]) := Lib.hid (Row.new w 118 [.int .i64 0, .int .i64 0, .int .i64 0, .int .i64 0])
  have E0 := Lib.hid (ext_alloc w (.cells #[.int .i64 0, .int .i64 0, .int .i64 0, .int .i64 0] 118))
  clear hM hv h hc
  by_cases hf : t ≤ (stAt ss 0).1
  · have Hfin : Hid (M = (stAt ss 0).2) := Lib.hid (by rw [← HM.out, stopL_first hf])
    rw [H0.out] at hf Hfin
    generalize ss[0] = s0 at *
    obtain ⟨at0, q1, q2, q3, q4⟩ := s0
    dsimp only at c0 c1 c2 c3 c4 hf Hfin
    clear H0
    go_enter Tryz.func145, Tryz.ntmps145
    go_wp2_with fail
    rw [Hfin.out]
    exact bodyPost_ret (v := bx4V (q1, q2, q3, q4)) (by simp [results, Tryz.results145, go_sem]) rfl ⟨rfl, (by repeat (first | exact Below.refl _ _ | assumption | refine Below.drew ?_ | refine Below.alloc ?_ (by first | exact Nat.le_refl _ | omega | (simp; done) | (simp; omega)) _ | refine Below.setCell ?_ (by first | exact Nat.le_refl _ | omega | (simp; done) | (simp; omega)) _))⟩
  · have Hf := Lib.hid hf
    have hf' : ¬ t ≤ ss[0].1 := by rw [← H0.out]; exact hf
    generalize ss[0] = s0 at *
    clear hf
    go_enter Tryz.func145, Tryz.ntmps145
    go_wp2_with fail
    go_loopw [5, 6, 7] (fun i _ _ wr => ∃ k : Nat, 1 ≤ k ∧ k ≤ ss.length ∧ i = .int .i64 k ∧ (∀ j, 0 < j → j < k → ¬ t ≤ (stAt ss j).1) ∧ Row wr w.heap.size 118 [.int .i64 0, .int .i64 0, .int .i64 0, .int .i64 0] ∧ Below w.heap.size w wr) (fun i _ _ _ => ss.length - (intOf i).toNat)
    case atStart => exact ⟨1, by omega, by omega, rfl, fun j h1 h2 => by omega, R0.out, E0.out⟩
    case round =>
      obtain ⟨k, hk1, hk, rfl, hno, hr, hbw⟩ := hrel
      have Hno := Lib.hid hno
      have HR := Lib.hid hr
      have HB := Lib.hid hbw
      have hgl := hr.lt
      clear c0 c1 c2 c3 c4
      by_cases hlt : k < ss.length
      · obtain ⟨a0, a1, a2, a3, a4⟩ := Hc.out (k - 1) (by omega)
        obtain ⟨d0, d1, d2, d3, d4⟩ := Hc.out k (by omega)
        have hst1 : stAt ss (k - 1) = ss[k - 1] := stAt_eq (by omega)
        have hst2 : stAt ss k = ss[k] := stAt_eq (by omega)
        have hrise := st_rise Hv.out (k := k - 1) (by omega)
        rw [Nat.sub_add_cancel hk1] at hrise
        have hb1 := stB_at Hv.out (k := k - 1) (by omega)
        have hb2 := stB_at Hv.out (k := k) (by omega)
        have hlb := (lastAt_bd (stB_to Hv.out) (Nat.le_refl _)).1
        have hlow : -1 ≤ lastAt ss (k - 1) := (lastAt_bd (fun i hi => stB_to Hv.out i (by omega)) (show k - 1 ≤ ss.length by omega)).1
        have htk : (stAt ss (k - 1)).1 ≤ t := by
          rcases Nat.eq_zero_or_pos (k - 1) with h0 | h0
          · rw [h0]; have := Hf.out; omega
          · have := Hno.out (k - 1) h0 (by omega); omega
        have Hseg : Hid (segL ss t k = mixL (stAt ss (k - 1)).2 (stAt ss k).2 (256 * (t - (stAt ss (k - 1)).1) / ((stAt ss k).1 - (stAt ss (k - 1)).1))) := Lib.hid rfl
        have Himp : Hid (t ≤ (stAt ss k).1 → stopL ss t = segL ss t k) := Lib.hid (fun hlt' => stopL_seg (by have := Hf.out; omega) (by omega) hlt (fun j h1 h2 => Hno.out j h1 h2) hlt')
        have Hstep : Hid (¬ t ≤ (stAt ss k).1 → ∀ j, 0 < j → j < k + 1 → ¬ t ≤ (stAt ss j).1) := Lib.hid (fun hn j h1 h2 => by
          by_cases hj : j = k
          · subst hj; exact hn
          · exact Hno.out j h1 (by omega))
        rw [hst1, hst2] at hrise Hseg
        rw [hst1] at htk
        rw [hst2] at Himp Hstep
        have a0 := Cls.cell hbw a0
        have a1 := Cls.cell hbw a1
        have a2 := Cls.cell hbw a2
        have a3 := Cls.cell hbw a3
        have a4 := Cls.cell hbw a4
        have d0 := Cls.cell hbw d0
        have d1 := Cls.cell hbw d1
        have d2 := Cls.cell hbw d2
        have d3 := Cls.cell hbw d3
        have d4 := Cls.cell hbw d4
        generalize ss[k - 1] = sa at *
        generalize ss[k] = sb at *
        obtain ⟨pa, x1, x2, x3, x4⟩ := sa
        obtain ⟨pb, y1, y2, y3, y4⟩ := sb
        dsimp only at a0 a1 a2 a3 a4 d0 d1 d2 d3 d4 hrise htk hb1 hb2 Hseg Himp Hstep
        obtain ⟨⟨g1, g2⟩, hca⟩ := hb1
        obtain ⟨⟨g3, g4⟩, hcb⟩ := hb2
        have hbl2 : b < wr.heap.size := by have := hbw.size; omega
        have Hca := Lib.hid hca
        have Hcb := Lib.hid hcb
        have hltJ : (k : Int) < (ss.length : Int) := by omega
        clear hst1 hst2 hno hr hbw hca hcb hlb
        by_cases hlt2 : t ≤ pb
        · have Hres := Lib.hid (Himp.out hlt2)
          have Hq := Lib.hid (seg_q (b := pb) htk hlt2 hrise)
          go_wp2_with fail
          have f1 : IntKind.i64.wrap (t - pa) = t - pa := IntWalk.i64_in _ (by omega)
          have f2 : IntKind.i64.wrap (256 * (t - pa)) = 256 * (t - pa) := IntWalk.i64_in _ (by omega)
          have f3 : IntKind.i64.wrap (pb - pa) = pb - pa := IntWalk.i64_in _ (by omega)
          have f4 : Int.tdiv (256 * (t - pa)) (pb - pa) = 256 * (t - pa) / (pb - pa) := Int.tdiv_eq_ediv_of_nonneg (by omega)
          have f5 : IntKind.i64.wrap (256 * (t - pa) / (pb - pa)) = 256 * (t - pa) / (pb - pa) := IntWalk.i64_in _ (by have := Hq.out; omega)
          have f6 : ¬ pb - pa = 0 := by omega
          have f7 : (pb - pa == 0) = false := by simp; omega
          generalize hW : (wr.alloc (.cells #[.int .i64 pa, .int .i64 x1, .int .i64 x2, .int .i64 x3, .int .i64 x4] 168)).alloc (.cells #[.int .i64 pb, .int .i64 y1, .int .i64 y2, .int .i64 y3, .int .i64 y4] 168) = wa
          have EA : Hid (Ext wr wa) := Lib.hid (by rw [← hW]; exact (by repeat (first | exact Below.refl _ _ | assumption | refine Below.drew ?_ | refine Below.alloc ?_ (by first | exact Nat.le_refl _ | omega | (simp; done) | (simp; omega)) _ | refine Below.setCell ?_ (by first | exact Nat.le_refl _ | omega | (simp; done) | (simp; omega)) _)))
          have B2 : Row wa wr.heap.size 168 [.int .i64 pa, .int .i64 x1, .int .i64 x2, .int .i64 x3, .int .i64 x4] := by rw [← hW]; exact (Row.new wr 168 [.int .i64 pa, .int .i64 x1, .int .i64 x2, .int .i64 x3, .int .i64 x4]).alloc _
          have B1 : Row wa (wr.heap.size + 1) 168 [.int .i64 pb, .int .i64 y1, .int .i64 y2, .int .i64 y3, .int .i64 y4] := by
            rw [← hW]
            have := Row.new (wr.alloc (.cells #[.int .i64 pa, .int .i64 x1, .int .i64 x2, .int .i64 x3, .int .i64 x4] 168)) 168 [.int .i64 pb, .int .i64 y1, .int .i64 y2, .int .i64 y3, .int .i64 y4]
            simpa using this
          clear hW a0 a1 a2 a3 a4 d0 d1 d2 d3 d4
          have a0 := B2.cell_of (i := 0) rfl
          have a1 := B2.cell_of (i := 1) rfl
          have a2 := B2.cell_of (i := 2) rfl
          have a3 := B2.cell_of (i := 3) rfl
          have a4 := B2.cell_of (i := 4) rfl
          have d0 := B1.cell_of (i := 0) rfl
          have d1 := B1.cell_of (i := 1) rfl
          have d2 := B1.cell_of (i := 2) rfl
          have d3 := B1.cell_of (i := 3) rfl
          have d4 := B1.cell_of (i := 4) rfl
          clear B1 B2
          refine wp_region_calm [0,1,2,3,4,5,6,7,8,9,10,11,12,13,14,15] [16] (by kernel_rfl) (by kernel_rfl) ?_
          iterate 15 ((refine calm_yes rfl rfl (fun w' hC => (by have a0 := hC.cell a0; have a1 := hC.cell a1; have a2 := hC.cell a2; have a3 := hC.cell a3; have a4 := hC.cell a4; have d0 := hC.cell d0; have d1 := hC.cell d1; have d2 := hC.cell d2; have d3 := hC.cell d3; have d4 := hC.cell d4; go_simp; rfl)) (fun K hK => ?_); go_simp; refine hK _ ?_; clear hK K))
          (apply calm_call rfl rfl rfl Tryz.func175 (by kernel_rfl) rfl (by go_simp; rfl); exact (fun w' hC => c_mix (x1, x2, x3, x4) (y1, y2, y3, y4) _ w' Hca.out Hcb.out Hq.out); intro K hK; go_simp; refine hK _ ?_; clear hK K)
          clear f1 f2 f3 f4 f5 f6 f7 a0 a1 a2 a3 a4 d0 d1 d2 d3 d4
          have Hm2 : Hid (mixL (x1, x2, x3, x4) (y1, y2, y3, y4) (256 * (t - pa) / (pb - pa)) = M) := Lib.hid (by rw [← HM.out, Hres.out, Hseg.out])
          rw [Hm2.out]
          obtain ⟨m1, m2, m3, m4⟩ := M
          refine calm_nil (fun w2 hC2 => ?_)
          refine late_free (by kernel_rfl) rfl rfl (fun w3 hx3 K' hK => ?_)
          have E3 : Ext wa w3 := Ext.trans (ext_cls hC2) hx3
          have S3 := HR.out.ext (Ext.trans EA.out E3)
          have B3 := below_ext HB.out (Ext.trans EA.out E3)
          have e0 := S3.cell_of (i := 0) rfl
          have e1 := S3.cell_of (i := 1) rfl
          have e2 := S3.cell_of (i := 2) rfl
          have e3 := S3.cell_of (i := 3) rfl
          have z0 := S3.frozen 0
          have z1 := S3.frozen 1
          have z2 := S3.frozen 2
          have z3 := S3.frozen 3
          go_simp
          refine hK _ _ ?_
          clear hK K'
          refine late_nil (fun w4 hx4 => ?_)
          have S4 := (((((S3.set_ 0 (.int .i64 m1)).set_ 1 (.int .i64 m2)).set_ 2 (.int .i64 m3)).set_ 3 (.int .i64 m4))).ext hx4
          have B4 : Ext w w4 := Ext.trans ((((B3.setCell (by simp) _).setCell (by simp) _).setCell (by simp) _).setCell (by simp) _) hx4
          have g0 := S4.cell_of (i := 0) rfl
          have g1 := S4.cell_of (i := 1) rfl
          have g2 := S4.cell_of (i := 2) rfl
          have g3 := S4.cell_of (i := 3) rfl
          clear e0 e1 e2 e3 z0 z1 z2 z3 S3 E3 hx3 hx4 hC2
          go_wp2_with fail
          exact bodyPost_ret (v := bx4V (m1, m2, m3, m4)) (by simp [results, Tryz.results145, go_sem, g0, g1, g2, g3]) rfl ⟨rfl, B4⟩
        · have Hst := Lib.hid (Hstep.out hlt2)
          go_wp2_with fail
          go_roundw
          case rel => exact ⟨k + 1, by omega, by omega, by go_num, Hst.out, HR.out, HB.out⟩
          case measure => simp [intOf]; omega
      · obtain rfl : k = ss.length := by omega
        obtain ⟨d0, d1, d2, d3, d4⟩ := Hc.out (ss.length - 1) (by omega)
        have Hfin : Hid (M = (stAt ss (ss.length - 1)).2) := Lib.hid (by rw [← HM.out, stopL_last (by have := Hf.out; omega) (fun j h1 h2 => Hno.out j h1 h2)])
        have hst1 : stAt ss (ss.length - 1) = ss[ss.length - 1] := stAt_eq (by omega)
        rw [hst1] at Hfin
        have d1 := Cls.cell hbw d1
        have d2 := Cls.cell hbw d2
        have d3 := Cls.cell hbw d3
        have d4 := Cls.cell hbw d4
        have hp1 : 1 ≤ ss.length := hn1
        generalize ss[ss.length - 1] = sa at *
        obtain ⟨pa, x1, x2, x3, x4⟩ := sa
        dsimp only at d1 d2 d3 d4 Hfin
        clear d0 hst1 hno hr hbw hk1 hk
        have e0 := HR.out.cell_of (i := 0) rfl
        have e1 := HR.out.cell_of (i := 1) rfl
        have e2 := HR.out.cell_of (i := 2) rfl
        have e3 := HR.out.cell_of (i := 3) rfl
        have z0 := HR.out.frozen 0
        have z1 := HR.out.frozen 1
        have z2 := HR.out.frozen 2
        have z3 := HR.out.frozen 3
        have e9 : ((ss.length : Int) - 1).toNat = ss.length - 1 := by omega
        go_wp2_with fail
        rw [Hfin.out]
        exact bodyPost_ret (v := bx4V (x1, x2, x3, x4)) (by simp [results, Tryz.results145, go_sem, e0, e1, e2, e3]) rfl ⟨rfl, (((HB.out.setCell (by simp) _).setCell (by simp) _).setCell (by simp) _).setCell (by simp) _⟩
end Go.Proofs.YtagmnbphbakikaaGreat
