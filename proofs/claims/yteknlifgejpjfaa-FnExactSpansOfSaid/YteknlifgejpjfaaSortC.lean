/-
  Crossings sorted by the library: the order asked of it, and what it leaves.
-/
import Derived.Shelf.SlSortCmp.WholeK
import Derived.Shelf.SlGeneric
import Derived.Test.YteknlifgejpjfaaRegionD
import Derived.Test.YteknlifgejpjfaaCrsS
namespace Go.Proofs.Yteknlifgejpjfaa
open Go Go.RowKit
attribute [local go_sem] RegD.calmAt RegD.calmUpon
def cmpI (a b : Int) : Int := if a < b then -1 else if b < a then 1 else 0
def cmpC (x y : Pt) : Int := if cmpI x.1 y.1 ≠ 0 then cmpI x.1 y.1 else cmpI x.2 y.2
theorem cmpC_lt (x y : Pt) : Go.Proofs.ltOf cmpC x y = befB x y := by
  unfold Go.Proofs.ltOf
  rw [Bool.eq_iff_iff, decide_eq_true_eq, befB_iff]
  unfold cmpC cmpI
  split <;> (try split) <;> (try split) <;> (try split) <;> (try split) <;> (try split) <;> omega
theorem cmpC_swo : Go.Sort.SWO (Go.Proofs.ltOf cmpC) where
  irrefl x := by rw [cmpC_lt, Bool.eq_false_iff, ne_eq, befB_iff]; omega
  trans x y z h1 h2 := by rw [cmpC_lt, befB_iff] at *; omega
  ntrans x y z h1 h2 := by rw [cmpC_lt, Bool.eq_false_iff, ne_eq, befB_iff] at *; omega
/-- Grown, draws counted: as the sort's worlds want it. -/
theorem grow_of {w w' : World} (h : RegD.BelowD w.heap.size w w') : ∃ q os', w' = Go.Sort.grow (w.drewN q) os' := by
  obtain ⟨⟨h1, h2, h3, h4, h5⟩, h6⟩ := h
  refine ⟨w'.drawn - w.drawn, w'.heap.extract w.heap.size w'.heap.size, ?_⟩
  obtain ⟨hp, tp, dr, os, out⟩ := w'
  obtain ⟨hp0, tp0, dr0, os0, out0⟩ := w
  dsimp only at *
  subst h1 h2 h3
  unfold Go.Sort.grow World.drewN
  dsimp only
  have e : hp = hp0 ++ hp.extract hp0.size hp.size := by
    apply Array.ext_getElem?
    intro k
    rw [Array.getElem?_append]
    split
    · rename_i hk; exact h5 k hk
    · rename_i hk
      rw [Array.getElem?_extract]
      split
      · congr 1; omega
      · rename_i hk2
        rw [Array.getElem?_eq_none (by omega)]
  congr 1
  omega
set_option maxHeartbeats 1000000 in
theorem c_isNaN (x : Int) (w : World) : Calls Try.prog 61 #[.int .i64 x] w fun e w' => e = .returned (.bool false) ∧ w = w' := by
  go_enter Try.func61, Try.ntmps61
  go_wp2
  go_ret
  exact ⟨rfl, rfl⟩
set_option maxHeartbeats 1000000 in
theorem c_Compare (x y : Int) (w : World) : Calls Try.prog 49 #[.int .i64 x, .int .i64 y] w fun e w' => e = .returned (.int .i64 (cmpI x y)) ∧ w = w' := by
  obtain ⟨S, hS⟩ : ∃ S, cmpI x y = S := ⟨_, rfl⟩
  rw [hS]
  have HS := Lib.hid hS
  clear hS
  have hcase : x < y ∨ (¬ x < y ∧ y < x) ∨ (¬ x < y ∧ ¬ y < x) := by omega
  rcases hcase with h | ⟨h, h'⟩ | ⟨h, h'⟩
  · have Hf : Hid (S = -1) := Lib.hid (by rw [← HS.out]; unfold cmpI; rw [if_pos h])
    go_enter Try.func49, Try.ntmps49
    go_wp2_with fail
    refine (c_isNaN x _).mono ?_
    rintro e w' ⟨rfl, rfl⟩
    go_wp2_with fail
    refine (c_isNaN y _).mono ?_
    rintro e w' ⟨rfl, rfl⟩
    go_wp2
    go_ret
    exact ⟨ret_i (by rw [Hf.out]), rfl⟩
  · have Hf : Hid (S = 1) := Lib.hid (by rw [← HS.out]; unfold cmpI; rw [if_neg h, if_pos h'])
    go_enter Try.func49, Try.ntmps49
    go_wp2_with fail
    refine (c_isNaN x _).mono ?_
    rintro e w' ⟨rfl, rfl⟩
    go_wp2_with fail
    refine (c_isNaN y _).mono ?_
    rintro e w' ⟨rfl, rfl⟩
    go_wp2
    go_ret
    exact ⟨ret_i (by rw [Hf.out]), rfl⟩
  · have Hf : Hid (S = 0) := Lib.hid (by rw [← HS.out]; unfold cmpI; rw [if_neg h, if_neg h'])
    go_enter Try.func49, Try.ntmps49
    go_wp2_with fail
    refine (c_isNaN x _).mono ?_
    rintro e w' ⟨rfl, rfl⟩
    go_wp2_with fail
    refine (c_isNaN y _).mono ?_
    rintro e w' ⟨rfl, rfl⟩
    go_wp2
    go_ret
    exact ⟨ret_i (by rw [Hf.out]), rfl⟩
set_option maxHeartbeats 2000000 in
theorem c_OrTwo (g : Nat) (cap : Nat) (a b : Int) (w : World) (c0 : w.cell? ⟨g, 0, none⟩ = some (.int .i64 a)) (c1 : w.cell? ⟨g, 1, none⟩ = some (.int .i64 b)) : Calls Try.prog 48 #[.slice (some ⟨g, 0, none⟩) 2 cap] w fun e w' => e = .returned (.int .i64 (if a ≠ 0 then a else b)) ∧ w = w' := by
  obtain ⟨S, hS⟩ : ∃ S, (if a ≠ 0 then a else b) = S := ⟨_, rfl⟩
  rw [hS]
  have H0 : Hid (a ≠ 0 → S = a) := Lib.hid (fun h => by rw [← hS, if_pos h])
  have H1 : Hid (a = 0 → S = b) := Lib.hid (fun h => by rw [← hS, if_neg (by simpa using h)])
  have C0 := Lib.hid c0
  have C1 := Lib.hid c1
  clear hS c0 c1
  go_enter Try.func48, Try.ntmps48
  go_wp2_with fail
  go_loopw [5, 8] (fun _ i wr => ∃ (k : Nat), k ≤ 2 ∧ i = .int .i64 k ∧ (1 ≤ k → a = 0) ∧ (2 ≤ k → b = 0) ∧ w = wr) (fun _ i _ => 2 - (intOf i).toNat)
  case atStart => exact ⟨0, by omega, rfl, (fun h => absurd h (by omega)), (fun h => absurd h (by omega)), by first | trivial | rfl⟩
  case round =>
    obtain ⟨k, hk, rfl, ha, hb, rfl⟩ := hrel
    have Ha := Lib.hid ha
    have Hb := Lib.hid hb
    clear ha hb
    have hcase : k = 0 ∨ k = 1 ∨ k = 2 := by omega
    rcases hcase with rfl | rfl | rfl
    · have c0 := C0.out
      by_cases h0 : a = 0
      · have e0 : (a != 0) = false := by simp [h0]
        have Hz := Lib.hid h0
        clear h0
        go_wp2
        go_roundw
        case rel => exact ⟨1, by omega, by go_num, fun _ => Hz.out, fun h => absurd h (by omega), by first | trivial | rfl⟩
        case measure => simp [intOf]
      · have e0 : (a != 0) = true := by simp [h0]
        have Hz := Lib.hid (H0.out h0)
        clear h0
        go_wp2
        go_ret
        exact ⟨ret_i (by rw [Hz.out]), rfl⟩
    · have c1 := C1.out
      have Hs := Lib.hid (H1.out (Ha.out (by omega)))
      by_cases h0 : b = 0
      · have e0 : (b != 0) = false := by simp [h0]
        have Hz := Lib.hid h0
        clear h0
        go_wp2
        go_roundw
        case rel => exact ⟨2, by omega, by go_num, fun _ => Ha.out (by omega), fun _ => Hz.out, by first | trivial | rfl⟩
        case measure => simp [intOf]
      · have e0 : (b != 0) = true := by simp [h0]
        clear h0
        go_wp2
        go_ret
        exact ⟨ret_i (by rw [Hs.out]), rfl⟩
    · have Hs : Hid (S = 0) := Lib.hid (by rw [H1.out (Ha.out (by omega)), Hb.out (by omega)])
      go_wp2
      go_ret
      exact ⟨ret_i (by rw [Hs.out]), rfl⟩
set_option maxRecDepth 100000 in
set_option maxHeartbeats 4000000 in
open RegD in
theorem c_cmpC (x y : Pt) (w : World) : Calls Try.prog 47 #[.agg #[.int .i64 x.1, .int .i64 x.2], .agg #[.int .i64 y.1, .int .i64 y.2]] w fun e w' => e = .returned (.int .i64 (cmpC x y)) ∧ ∃ q os', w' = Go.Sort.grow (w.drewN q) os' := by
  obtain ⟨x1, x2⟩ := x
  obtain ⟨y1, y2⟩ := y
  obtain ⟨u, hu⟩ : ∃ u, cmpI x1 y1 = u := ⟨_, rfl⟩
  obtain ⟨v, hv⟩ : ∃ v, cmpI x2 y2 = v := ⟨_, rfl⟩
  have hS : cmpC (x1, x2) (y1, y2) = if u ≠ 0 then u else v := by unfold cmpC; rw [hu, hv]
  rw [hS]
  have K1 := Lib.hid (fun W => c_Compare x1 y1 W)
  have K2 := Lib.hid (fun W => c_Compare x2 y2 W)
  rw [hu] at K1
  rw [hv] at K2
  clear hu hv hS
  refine Calls.mono (R := fun e w' => e = .returned (.int .i64 (if u ≠ 0 then u else v)) ∧ RegD.BelowD w.heap.size w w') ?_ (fun e w' h => ⟨h.1, grow_of h.2⟩)
  have K3 := Lib.hid (fun g cap W h0 h1 => c_OrTwo g cap u v W h0 h1)
  generalize (if u ≠ 0 then u else v) = S at *
  go_enter Try.func47, Try.ntmps47
  go_wp2_with fail
  refine gen_code ?_
  intro w1 hW
  obtain ⟨_, r1, r2⟩ := new2 hW
  have hd : RegD.BelowD w.heap.size w w1 := by subst hW; exact ((RegD.BelowD.refl _ w).alloc (Nat.le_refl _) _).alloc (by simp) _
  have p0 := r1.cell_of (i := 0) rfl
  have p1 := r1.cell_of (i := 1) rfl
  have q0 := r2.cell_of (i := 0) rfl
  have q1 := r2.cell_of (i := 1) rfl
  have HD := Lib.hid hd
  clear hW r1 r2 hd
  refine wp_region_calm [0,1,2,3,4,5,6,7,8,9] [10,11,12] (by kernel_rfl) (by kernel_rfl) ?_
  iterate 4 ((refine calm_yes rfl rfl (fun w' hC => (by have p0 := hC.cell p0; have p1 := hC.cell p1; have q0 := hC.cell q0; have q1 := hC.cell q1; go_simp; rfl)) (fun K hK => ?_); go_simp; refine hK _ ?_; clear hK K))
  (apply calm_call rfl rfl rfl Try.func49 (by kernel_rfl) rfl (by go_simp; rfl); exact (fun w' hC => (K1.out w').mono (fun _ _ h => ⟨h.1, by obtain ⟨_, rfl⟩ := h; exact RegD.BelowD.refl _ _⟩)); intro K hK; go_simp; refine hK _ ?_; clear hK K)
  iterate 4 ((refine calm_yes rfl rfl (fun w' hC => (by have p0 := hC.cell p0; have p1 := hC.cell p1; have q0 := hC.cell q0; have q1 := hC.cell q1; go_simp; rfl)) (fun K hK => ?_); go_simp; refine hK _ ?_; clear hK K))
  (apply calm_call rfl rfl rfl Try.func49 (by kernel_rfl) rfl (by go_simp; rfl); exact (fun w' hC => (K2.out w').mono (fun _ _ h => ⟨h.1, by obtain ⟨_, rfl⟩ := h; exact RegD.BelowD.refl _ _⟩)); intro K hK; go_simp; refine hK _ ?_; clear hK K)
  refine calm_nil (fun wa hCa => ?_)
  clear p0 p1 q0 q1
  refine late_keep rfl rfl hCa (fun wb hxb hCb K hK => ?_)
  go_simp
  refine hK _ _ (hCb.alloc hCb.size _) (fun hCc => ?_)
  clear hK K
  refine late_fn rfl rfl rfl Try.func48 (by kernel_rfl) rfl (by go_simp) (fun wd hxd K hK => (K3.out wb.heap.size 2 wd ?_ ?_).mono ?_)
  · have r := (Row.new wb 3 [.int .i64 u, .int .i64 v]).ext hxd.b
    exact r.cell_of (i := 0) rfl
  · have r := (Row.new wb 3 [.int .i64 u, .int .i64 v]).ext hxd.b
    exact r.cell_of (i := 1) rfl
  rintro e we ⟨rfl, rfl⟩
  refine ⟨_, rfl, hK _ _ ⟨fun _ => hCc.ext hxd, ?_⟩⟩
  clear hK K
  refine late_keep rfl rfl (hCc.ext hxd) (fun wf hxf hCf K hK => ?_)
  go_simp
  refine hK _ _ hCf (fun hCg => ?_)
  clear hK K
  refine late_nil (fun wz hxz => ?_)
  have hz := Lib.hid (BelowD.trans HD.out (BelowD.mono ((BelowD.refl _ w1).drew.trans (Cls.ext hCg hxz)) HD.out.size))
  clear hCa hCb hCc hCf hCg hxb hxd hxf hxz
  go_wp2
  go_ret
  exact ⟨rfl, hz.out⟩
end Go.Proofs.Yteknlifgejpjfaa
