/-
  Stops of paints: which are valid.
-/
import Derived.Test.YtjgpojegaojnmaaGreatColor
namespace Go.Proofs.YtjgpojegaojnmaaGreat
open Go Go.RowKit Reg
attribute [local go_sem] calmAt calmUpon
abbrev St := Int × Bx4
def stC (s : St) : List Value := .int .i64 s.1 :: bxC s.2
theorem stC_len (s : St) : (stC s).length = 5 := rfl
def stR : World → St → List Value → Prop := fun _ s us => us = stC s
theorem stR_stab : Stab stR := fun _ _ _ _ h _ => h
abbrev Sts (w : World) (A : Option Addr) (ss : List St) : Prop := In stR 5 w A ss
theorem In.sts {w : World} {A : Option Addr} {ss : List St} (h : Sts w A ss) (hn : 0 < ss.length) : ∃ b off, A = some ⟨b, off, none⟩ ∧ b < w.heap.size ∧
    ∀ (k : Nat) (h : k < ss.length), w.cell? ⟨b, off + k * 5, none⟩ = some (.int .i64 ss[k].1) ∧ w.cell? ⟨b, off + k * 5 + 1, none⟩ = some (.int .i64 ss[k].2.1) ∧ w.cell? ⟨b, off + k * 5 + 2, none⟩ = some (.int .i64 ss[k].2.2.1) ∧
      w.cell? ⟨b, off + k * 5 + 3, none⟩ = some (.int .i64 ss[k].2.2.2.1) ∧ w.cell? ⟨b, off + k * 5 + 4, none⟩ = some (.int .i64 ss[k].2.2.2.2) := by
  have hlt := h.lt (by omega) hn
  obtain ⟨b, off, hA, hc⟩ := h hn
  refine ⟨b, off, hA, hlt b off hA, fun k hk => ?_⟩
  obtain ⟨us, h1, _, h3⟩ := hc k hk
  have h1' : us = stC ss[k] := h1
  subst h1'
  exact ⟨h3 0 _ rfl, h3 1 _ rfl, h3 2 _ rfl, h3 3 _ rfl, h3 4 _ rfl⟩
/-- The place before stop k. -/
def lastAt (ss : List St) (k : Nat) : Int := if k = 0 then -1 else (ss.getD (k - 1) (0, 0, 0, 0, 0)).1
def stOk (ss : List St) (k : Nat) : Bool := inB (ss.getD k (0, 0, 0, 0, 0)).1 (lastAt ss k + 1) 256 && coB (ss.getD k (0, 0, 0, 0, 0)).2
def stTo (ss : List St) (k : Nat) : Prop := ∀ i, i < k → stOk ss i = true
def stB (ss : List St) : Bool := (List.range ss.length).all (stOk ss) && inB (ss.length : Int) 1 4
theorem stOk_at {ss : List St} {k : Nat} (hk : k < ss.length) : stOk ss k = (inB ss[k].1 (lastAt ss k + 1) 256 && coB ss[k].2) := by
  unfold stOk
  rw [List.getD_eq_getElem?_getD, List.getElem?_eq_getElem hk]
  rfl
theorem lastAt_succ {ss : List St} {k : Nat} (hk : k < ss.length) : lastAt ss (k + 1) = ss[k].1 := by
  unfold lastAt
  rw [if_neg (by omega), Nat.add_sub_cancel, List.getD_eq_getElem?_getD, List.getElem?_eq_getElem hk]
  rfl
theorem lastAt_bd {ss : List St} {k : Nat} (h : stTo ss k) (hk : k ≤ ss.length) : -1 ≤ lastAt ss k ∧ lastAt ss k ≤ 256 ∧ (0 < k → 0 ≤ lastAt ss k) := by
  induction k with
  | zero => simp [lastAt]
  | succ k ih =>
    obtain ⟨i1, _, _⟩ := ih (fun i hi => h i (by omega)) (by omega)
    have h2 := h k (by omega)
    rw [stOk_at (by omega)] at h2
    rw [lastAt_succ (by omega)]
    simp only [Bool.and_eq_true, inB_iff] at h2
    omega
theorem stTo_succ {ss : List St} {k : Nat} (h : stTo ss k) (hk : stOk ss k = true) : stTo ss (k + 1) := by
  intro i hi
  by_cases h' : i = k
  · subst h'; exact hk
  · exact h i (by omega)
theorem stB_no {ss : List St} {k : Nat} (hk : k < ss.length) (h : stOk ss k = false) : stB ss = false := by
  unfold stB
  have : (List.range ss.length).all (stOk ss) = false := by
    rw [List.all_eq_false]
    exact ⟨k, by simpa using hk, by simp [h]⟩
  simp [this]
theorem stB_all {ss : List St} (h : stTo ss ss.length) : stB ss = inB (ss.length : Int) 1 4 := by
  unfold stB
  have : (List.range ss.length).all (stOk ss) = true := by
    rw [List.all_eq_true]
    intro i hi
    exact h i (by simpa using hi)
  simp [this]
theorem stB_at {ss : List St} (h : stB ss = true) {k : Nat} (hk : k < ss.length) : (lastAt ss k + 1 ≤ ss[k].1 ∧ ss[k].1 ≤ 256) ∧ coB ss[k].2 = true := by
  unfold stB at h
  simp only [Bool.and_eq_true, List.all_eq_true, List.mem_range] at h
  have := h.1 k hk
  rw [stOk_at hk] at this
  simp only [Bool.and_eq_true, inB_iff] at this
  exact this
theorem stB_len {ss : List St} (h : stB ss = true) : 1 ≤ ss.length ∧ ss.length ≤ 4 := by
  unfold stB at h
  simp only [Bool.and_eq_true, inB_iff] at h
  omega
theorem stB_to {ss : List St} (h : stB ss = true) : stTo ss ss.length := by
  unfold stB at h
  simp only [Bool.and_eq_true, List.all_eq_true, List.mem_range] at h
  exact fun i hi => h.1 i hi
theorem ei_st : EI Tryz.prog 55 140 (.agg #[.int .i64 0, .int .i64 0, .int .i64 0, .int .i64 0, .int .i64 0]) [.int .i64 0, .int .i64 0, .int .i64 0, .int .i64 0, .int .i64 0] 40 := ei_mk Tryz.underlying55 (by kernel_rfl) rfl (by decide) (by decide)
set_option maxRecDepth 100000 in
set_option maxHeartbeats 4000000 in
theorem c_iValidStops (A : Option Addr) (cap : Nat) (ss : List St) (w : World) (h : Sts w A ss) (hl : ss.length ≤ 1000000000) :
    Calls Tryz.prog 143 #[.slice A ss.length cap] w fun e w' => e = .returned (.bool (stB ss)) ∧ Below w.heap.size w w' := by
  have H := Lib.hid h
  clear h
  go_enter Tryz.func143, Tryz.ntmps143
  go_wp2_with fail
  go_loopw [3, 5, 8] (fun l _ i wr => ∃ k : Nat, k ≤ ss.length ∧ i = .int .i64 k ∧ l = .int .i64 (lastAt ss k) ∧ stTo ss k ∧ Below w.heap.size w wr) (fun _ _ i _ => ss.length - (intOf i).toNat)
  case atStart => exact ⟨0, Nat.zero_le _, rfl, rfl, fun i hi => by omega, Below.refl _ _⟩
  case round =>
    obtain ⟨k, hk, rfl, rfl, hto, hbw⟩ := hrel
    have Hto := Lib.hid hto
    have HB := Lib.hid hbw
    obtain ⟨b1, b2, b3⟩ := lastAt_bd hto hk
    by_cases hlt : k < ss.length
    · have hne : ¬ ss = [] := by intro hh; subst hh; simp at hlt
      obtain ⟨b, off, rfl, hbl, hc⟩ := (H.out.ext stR_stab hbw).sts (by omega)
      obtain ⟨c0, c1, c2, c3, c4⟩ := hc k hlt
      have Hok := Lib.hid (stOk_at hlt)
      have Hno : Hid (stOk ss k = false → stB ss = false) := Lib.hid (stB_no hlt)
      have Hls := Lib.hid (lastAt_succ hlt)
      generalize lastAt ss k = la at *
      generalize ss[k] = s at *
      obtain ⟨at_, cr, cg, cb, ca⟩ := s
      dsimp only at c0 c1 c2 c3 c4
      clear hc hto hbw hk b3
      by_cases hin : inB at_ (la + 1) 256 = true
      · have Hin := Lib.hid hin
        have hin2 := inB_iff.1 hin
        clear hin
        by_cases hco : coB (cr, cg, cb, ca) = true
        · have Hco := Lib.hid hco
          have Hv : Hid (stOk ss k = true) := Lib.hid (by rw [Hok.out, Hin.out, hco]; rfl)
          clear hco
          go_wp2_with (first | (go_at_call 62; refine (c_in at_ (la + 1) 256 _).mono ?_; rw [Hin.out]; rintro e w' ⟨rfl, rfl⟩) | (go_at_call 104; refine (c_ValidColor (cr, cg, cb, ca) _).mono ?_; rw [Hco.out]; rintro e w1 ⟨rfl, hb1⟩; obtain ⟨hc1, hf1⟩ := bcell hb1))
          go_roundw
          case rel => exact ⟨k + 1, by omega, by go_num, by rw [Hls.out], stTo_succ Hto.out Hv.out, below_ext HB.out (Ext.trans (by repeat (first | exact Below.refl _ _ | assumption | refine Below.drew ?_ | refine Below.alloc ?_ (by first | exact Nat.le_refl _ | omega | (simp; done) | (simp; omega)) _ | refine Below.setCell ?_ (by first | exact Nat.le_refl _ | omega | (simp; done) | (simp; omega)) _)) hb1)⟩
          case measure => simp [intOf]; omega
        · simp only [Bool.not_eq_true] at hco
          have Hco := Lib.hid hco
          have Hv : Hid (stOk ss k = false) := Lib.hid (by rw [Hok.out, hco]; simp)
          clear hco
          go_wp2_with (first | (go_at_call 62; refine (c_in at_ (la + 1) 256 _).mono ?_; rw [Hin.out]; rintro e w' ⟨rfl, rfl⟩) | (go_at_call 104; refine (c_ValidColor (cr, cg, cb, ca) _).mono ?_; rw [Hco.out]; rintro e w1 ⟨rfl, hb1⟩; obtain ⟨hc1, hf1⟩ := bcell hb1))
          go_ret
          exact ⟨ret_bb (Hno.out Hv.out).symm, below_ext HB.out (Ext.trans (by repeat (first | exact Below.refl _ _ | assumption | refine Below.drew ?_ | refine Below.alloc ?_ (by first | exact Nat.le_refl _ | omega | (simp; done) | (simp; omega)) _ | refine Below.setCell ?_ (by first | exact Nat.le_refl _ | omega | (simp; done) | (simp; omega)) _)) hb1)⟩
      · simp only [Bool.not_eq_true] at hin
        have Hin := Lib.hid hin
        have Hv : Hid (stOk ss k = false) := Lib.hid (by rw [Hok.out]; dsimp only; rw [hin]; rfl)
        clear hin
        go_wp2_with (go_at_call 62; refine (c_in at_ (la + 1) 256 _).mono ?_; rw [Hin.out]; rintro e w' ⟨rfl, rfl⟩)
        go_ret
        exact ⟨ret_bb (Hno.out Hv.out).symm, below_ext HB.out (by repeat (first | exact Below.refl _ _ | assumption | refine Below.drew ?_ | refine Below.alloc ?_ (by first | exact Nat.le_refl _ | omega | (simp; done) | (simp; omega)) _ | refine Below.setCell ?_ (by first | exact Nat.le_refl _ | omega | (simp; done) | (simp; omega)) _))⟩
    · obtain rfl : k = ss.length := by omega
      have hall := Lib.hid (stB_all Hto.out)
      clear hto hbw hk b3
      go_wp2_with (go_at_call 62; refine (c_in ss.length 1 4 _).mono ?_; rintro e w' ⟨rfl, rfl⟩)
      go_ret
      exact ⟨ret_bb hall.out.symm, HB.out⟩
set_option maxRecDepth 100000 in
set_option maxHeartbeats 8000000 in
theorem c_sValidStops (A : Option Addr) (cap : Nat) (ss : List St) (w : World) (h : Sts w A ss) (hl : ss.length ≤ 1000000000) :
    Calls Tryz.prog 119 #[.slice A ss.length cap] w fun e w' => e = .returned (.bool (stB ss)) ∧ Below w.heap.size w w' := by
  have H := Lib.hid h
  clear h
  go_enter Tryz.func119, Tryz.ntmps119
  go_wp2_with fail
  go_loopw [3] (fun i wr => ∃ k : Nat, k ≤ ss.length ∧ i = .int .i64 k ∧ stTo ss k ∧ Below w.heap.size w wr) (fun i _ => ss.length - (intOf i).toNat)
  case atStart => exact ⟨0, Nat.zero_le _, rfl, fun i hi => by omega, Below.refl _ _⟩
  case round =>
    obtain ⟨k, hk, rfl, hto, hbw⟩ := hrel
    have Hto := Lib.hid hto
    have HB := Lib.hid hbw
    obtain ⟨b1, b2, b3⟩ := lastAt_bd hto hk
    by_cases hlt : k < ss.length
    · have hne : ¬ ss = [] := by intro hh; subst hh; simp at hlt
      obtain ⟨b, off, rfl, hbl, hc⟩ := (H.out.ext stR_stab hbw).sts (by omega)
      obtain ⟨c0, c1, c2, c3, c4⟩ := hc k hlt
      have Hok := Lib.hid (stOk_at hlt)
      have Hno : Hid (stOk ss k = false → stB ss = false) := Lib.hid (stB_no hlt)
      have hprev : 0 < k → wr.cell? ⟨b, off + (k - 1) * 5, none⟩ = some (.int .i64 (lastAt ss k)) := fun h0 => by
        obtain ⟨q, _⟩ := hc (k - 1) (by omega)
        have e : lastAt ss k = ss[k - 1].1 := by
          have := lastAt_succ (ss := ss) (k := k - 1) (by omega)
          rwa [Nat.sub_add_cancel h0] at this
        rw [e]; exact q
      have hla0 : k = 0 → lastAt ss k = -1 := fun h0 => by simp [lastAt, h0]
      have Hprev := Lib.hid hprev
      have Hla0 := Lib.hid hla0
      have HB3 := Lib.hid b3
      generalize lastAt ss k = la at *
      generalize ss[k] = s at *
      obtain ⟨at_, cr, cg, cb, ca⟩ := s
      dsimp only at c0 c1 c2 c3 c4
      obtain ⟨u1, u2⟩ : (0 : Int) ≤ (k : Int) ∧ (k : Int) < (ss.length : Int) := by omega
      clear hc hto hbw hk b3 hprev hla0
      by_cases hin : inB at_ 0 256 = true
      · have Hin := Lib.hid hin
        have K1 : Hid (∀ W, Calls Tryz.prog 29 #[.int .i64 at_, .int .i64 0, .int .i64 256] W fun e w' => e = .returned (.bool true) ∧ Below W.heap.size W w') := Lib.hid (fun W => by have := ext_of_same (c_inRange at_ 0 256 W); rwa [Hin.out] at this)
        obtain ⟨v1, v2⟩ := inB_iff.1 hin
        clear hin
        by_cases hco : coB (cr, cg, cb, ca) = true
        · have Hco := Lib.hid hco
          have K2 : Hid (∀ W, Calls Tryz.prog 153 #[bx4V (cr, cg, cb, ca)] W fun e w' => e = .returned (.bool true) ∧ Below W.heap.size W w') := Lib.hid (fun W => by have := c_validColor (cr, cg, cb, ca) W; rwa [Hco.out] at this)
          clear hco
          by_cases hk0 : k = 0
          · have hI : ¬ (0 : Int) < (k : Int) := by omega
            have hI2 : ¬ 0 < k := by omega
            have Hv : Hid (stOk ss k = true) := Lib.hid (by
              have := Hla0.out hk0
              rw [Hok.out, Hco.out]; simp [inB]; omega)
            clear hk0
            go_wp2_with fail
            refine wp_region_calm [0,1,2,3,4,5,6,7,8,9,10,11,12,13,14,15,16,17,18,19,20,21,22,23,24,25,26,27,28,29,30,31,32,33] [] (by kernel_rfl) (by kernel_rfl) ?_
            iterate 5 ((first | (refine calm_yes rfl rfl (fun w' hC => (by have c0 := hC.cell c0; have c1 := hC.cell c1; have c2 := hC.cell c2; have c3 := hC.cell c3; have c4 := hC.cell c4; go_simp; rfl)) (fun K hK => ?_); go_simp; refine hK _ ?_; clear hK K) | (refine calm_no rfl rfl (fun K hK => ?_); go_simp; refine hK _ ?_; clear hK K)))
            (first | (apply calm_call rfl rfl rfl Tryz.func29 (by kernel_rfl) rfl (by go_simp; rfl); exact (fun w' hC => K1.out w'); intro K hK; go_simp; refine hK _ ?_; clear hK K) | (refine calm_no rfl rfl (fun K hK => ?_); go_simp; refine hK _ ?_; clear hK K))
            iterate 7 ((first | (refine calm_yes rfl rfl (fun w' hC => (by have c0 := hC.cell c0; have c1 := hC.cell c1; have c2 := hC.cell c2; have c3 := hC.cell c3; have c4 := hC.cell c4; go_simp; rfl)) (fun K hK => ?_); go_simp; refine hK _ ?_; clear hK K) | (refine calm_no rfl rfl (fun K hK => ?_); go_simp; refine hK _ ?_; clear hK K)))
            (first | (apply calm_call rfl rfl rfl Tryz.func153 (by kernel_rfl) rfl (by go_simp; rfl); exact (fun w' hC => K2.out w'); intro K hK; go_simp; refine hK _ ?_; clear hK K) | (refine calm_no rfl rfl (fun K hK => ?_); go_simp; refine hK _ ?_; clear hK K))
            iterate 20 ((first | (refine calm_yes rfl rfl (fun w' hC => (by have c0 := hC.cell c0; have c1 := hC.cell c1; have c2 := hC.cell c2; have c3 := hC.cell c3; have c4 := hC.cell c4; go_simp; rfl)) (fun K hK => ?_); go_simp; refine hK _ ?_; clear hK K) | (refine calm_no rfl rfl (fun K hK => ?_); go_simp; refine hK _ ?_; clear hK K)))
            refine calm_done (fun w1 hb1 => ?_)
            have E1 := Lib.hid hb1
            clear hb1
            go_wp2
            go_roundw
            case rel => exact ⟨k + 1, by omega, by go_num, stTo_succ Hto.out Hv.out, below_ext HB.out E1.out⟩
            case measure => simp [intOf]; omega
          · have hI : (0 : Int) < (k : Int) := by omega
            have hI2 : 0 < k := by omega
            have cp := Hprev.out (by omega)
            have p0 := HB3.out (by omega)
            have f1 : IntKind.i64.wrap ((k : Int) - 1) = (k : Int) - 1 := IntWalk.i64_in _ (by omega)
            have e1 : ((k : Int) - 1).toNat = k - 1 := by omega
            obtain ⟨u3, u4⟩ : (0 : Int) ≤ (k : Int) - 1 ∧ (k : Int) - 1 < (ss.length : Int) := by omega
            have u5 : (1 : Int) ≤ (k : Int) := by omega
            have u6 : 1 ≤ k := by omega
            by_cases hle : at_ ≤ la
            · have Hv : Hid (stOk ss k = false) := Lib.hid (by
                have : inB at_ (la + 1) 256 = false := by simp [inB]; omega
                rw [Hok.out]; dsimp only; rw [this]; rfl)
              go_wp2_with fail
              refine wp_region_calm [0,1,2,3,4,5,6,7,8,9,10,11,12,13,14,15,16,17,18,19,20,21,22,23,24,25,26,27,28,29,30,31,32,33] [] (by kernel_rfl) (by kernel_rfl) ?_
              iterate 5 ((first | (refine calm_yes rfl rfl (fun w' hC => (by have c0 := hC.cell c0; have c1 := hC.cell c1; have c2 := hC.cell c2; have c3 := hC.cell c3; have c4 := hC.cell c4; go_simp; rfl)) (fun K hK => ?_); go_simp; refine hK _ ?_; clear hK K) | (refine calm_no rfl rfl (fun K hK => ?_); go_simp; refine hK _ ?_; clear hK K)))
              (first | (apply calm_call rfl rfl rfl Tryz.func29 (by kernel_rfl) rfl (by go_simp; rfl); exact (fun w' hC => K1.out w'); intro K hK; go_simp; refine hK _ ?_; clear hK K) | (refine calm_no rfl rfl (fun K hK => ?_); go_simp; refine hK _ ?_; clear hK K))
              iterate 7 ((first | (refine calm_yes rfl rfl (fun w' hC => (by have c0 := hC.cell c0; have c1 := hC.cell c1; have c2 := hC.cell c2; have c3 := hC.cell c3; have c4 := hC.cell c4; go_simp; rfl)) (fun K hK => ?_); go_simp; refine hK _ ?_; clear hK K) | (refine calm_no rfl rfl (fun K hK => ?_); go_simp; refine hK _ ?_; clear hK K)))
              (first | (apply calm_call rfl rfl rfl Tryz.func153 (by kernel_rfl) rfl (by go_simp; rfl); exact (fun w' hC => K2.out w'); intro K hK; go_simp; refine hK _ ?_; clear hK K) | (refine calm_no rfl rfl (fun K hK => ?_); go_simp; refine hK _ ?_; clear hK K))
              iterate 20 ((first | (refine calm_yes rfl rfl (fun w' hC => (by have c0 := hC.cell c0; have c1 := hC.cell c1; have c2 := hC.cell c2; have c3 := hC.cell c3; have c4 := hC.cell c4; have cp := hC.cell cp; go_simp; rfl)) (fun K hK => ?_); go_simp; refine hK _ ?_; clear hK K) | (refine calm_no rfl rfl (fun K hK => ?_); go_simp; refine hK _ ?_; clear hK K)))
              refine calm_done (fun w1 hb1 => ?_)
              have E1 := Lib.hid hb1
              clear hb1
              clear f1 e1
              go_wp2
              go_ret
              exact ⟨ret_bb (Hno.out Hv.out).symm, below_ext HB.out E1.out⟩
            · have Hv : Hid (stOk ss k = true) := Lib.hid (by
                have : inB at_ (la + 1) 256 = true := by simp [inB]; omega
                rw [Hok.out]; dsimp only; rw [this, Hco.out]; rfl)
              go_wp2_with fail
              refine wp_region_calm [0,1,2,3,4,5,6,7,8,9,10,11,12,13,14,15,16,17,18,19,20,21,22,23,24,25,26,27,28,29,30,31,32,33] [] (by kernel_rfl) (by kernel_rfl) ?_
              iterate 5 ((first | (refine calm_yes rfl rfl (fun w' hC => (by have c0 := hC.cell c0; have c1 := hC.cell c1; have c2 := hC.cell c2; have c3 := hC.cell c3; have c4 := hC.cell c4; go_simp; rfl)) (fun K hK => ?_); go_simp; refine hK _ ?_; clear hK K) | (refine calm_no rfl rfl (fun K hK => ?_); go_simp; refine hK _ ?_; clear hK K)))
              (first | (apply calm_call rfl rfl rfl Tryz.func29 (by kernel_rfl) rfl (by go_simp; rfl); exact (fun w' hC => K1.out w'); intro K hK; go_simp; refine hK _ ?_; clear hK K) | (refine calm_no rfl rfl (fun K hK => ?_); go_simp; refine hK _ ?_; clear hK K))
              iterate 7 ((first | (refine calm_yes rfl rfl (fun w' hC => (by have c0 := hC.cell c0; have c1 := hC.cell c1; have c2 := hC.cell c2; have c3 := hC.cell c3; have c4 := hC.cell c4; go_simp; rfl)) (fun K hK => ?_); go_simp; refine hK _ ?_; clear hK K) | (refine calm_no rfl rfl (fun K hK => ?_); go_simp; refine hK _ ?_; clear hK K)))
              (first | (apply calm_call rfl rfl rfl Tryz.func153 (by kernel_rfl) rfl (by go_simp; rfl); exact (fun w' hC => K2.out w'); intro K hK; go_simp; refine hK _ ?_; clear hK K) | (refine calm_no rfl rfl (fun K hK => ?_); go_simp; refine hK _ ?_; clear hK K))
              iterate 20 ((first | (refine calm_yes rfl rfl (fun w' hC => (by have c0 := hC.cell c0; have c1 := hC.cell c1; have c2 := hC.cell c2; have c3 := hC.cell c3; have c4 := hC.cell c4; have cp := hC.cell cp; go_simp; rfl)) (fun K hK => ?_); go_simp; refine hK _ ?_; clear hK K) | (refine calm_no rfl rfl (fun K hK => ?_); go_simp; refine hK _ ?_; clear hK K)))
              refine calm_done (fun w1 hb1 => ?_)
              have E1 := Lib.hid hb1
              clear hb1
              clear f1 e1
              go_wp2
              go_roundw
              case rel => exact ⟨k + 1, by omega, by go_num, stTo_succ Hto.out Hv.out, below_ext HB.out E1.out⟩
              case measure => simp [intOf]; omega
        · simp only [Bool.not_eq_true] at hco
          have Hco := Lib.hid hco
          have K2 : Hid (∀ W, Calls Tryz.prog 153 #[bx4V (cr, cg, cb, ca)] W fun e w' => e = .returned (.bool false) ∧ Below W.heap.size W w') := Lib.hid (fun W => by have := c_validColor (cr, cg, cb, ca) W; rwa [Hco.out] at this)
          have Hv : Hid (stOk ss k = false) := Lib.hid (by rw [Hok.out, hco]; simp)
          clear hco
          go_wp2_with fail
          refine wp_region_calm [0,1,2,3,4,5,6,7,8,9,10,11,12,13,14,15,16,17,18,19,20,21,22,23,24,25,26,27,28,29,30,31,32,33] [] (by kernel_rfl) (by kernel_rfl) ?_
          iterate 5 ((first | (refine calm_yes rfl rfl (fun w' hC => (by have c0 := hC.cell c0; have c1 := hC.cell c1; have c2 := hC.cell c2; have c3 := hC.cell c3; have c4 := hC.cell c4; go_simp; rfl)) (fun K hK => ?_); go_simp; refine hK _ ?_; clear hK K) | (refine calm_no rfl rfl (fun K hK => ?_); go_simp; refine hK _ ?_; clear hK K)))
          (first | (apply calm_call rfl rfl rfl Tryz.func29 (by kernel_rfl) rfl (by go_simp; rfl); exact (fun w' hC => K1.out w'); intro K hK; go_simp; refine hK _ ?_; clear hK K) | (refine calm_no rfl rfl (fun K hK => ?_); go_simp; refine hK _ ?_; clear hK K))
          iterate 7 ((first | (refine calm_yes rfl rfl (fun w' hC => (by have c0 := hC.cell c0; have c1 := hC.cell c1; have c2 := hC.cell c2; have c3 := hC.cell c3; have c4 := hC.cell c4; go_simp; rfl)) (fun K hK => ?_); go_simp; refine hK _ ?_; clear hK K) | (refine calm_no rfl rfl (fun K hK => ?_); go_simp; refine hK _ ?_; clear hK K)))
          (first | (apply calm_call rfl rfl rfl Tryz.func153 (by kernel_rfl) rfl (by go_simp; rfl); exact (fun w' hC => K2.out w'); intro K hK; go_simp; refine hK _ ?_; clear hK K) | (refine calm_no rfl rfl (fun K hK => ?_); go_simp; refine hK _ ?_; clear hK K))
          iterate 20 ((first | (refine calm_yes rfl rfl (fun w' hC => (by have c0 := hC.cell c0; have c1 := hC.cell c1; have c2 := hC.cell c2; have c3 := hC.cell c3; have c4 := hC.cell c4; go_simp; rfl)) (fun K hK => ?_); go_simp; refine hK _ ?_; clear hK K) | (refine calm_no rfl rfl (fun K hK => ?_); go_simp; refine hK _ ?_; clear hK K)))
          refine calm_done (fun w1 hb1 => ?_)
          have E1 := Lib.hid hb1
          clear hb1
          go_wp2
          go_ret
          exact ⟨ret_bb (Hno.out Hv.out).symm, below_ext HB.out E1.out⟩
      · simp only [Bool.not_eq_true] at hin
        have Hin := Lib.hid hin
        have K1 : Hid (∀ W, Calls Tryz.prog 29 #[.int .i64 at_, .int .i64 0, .int .i64 256] W fun e w' => e = .returned (.bool false) ∧ Below W.heap.size W w') := Lib.hid (fun W => by have := ext_of_same (c_inRange at_ 0 256 W); rwa [Hin.out] at this)
        have K2 : Hid (∀ W, Calls Tryz.prog 153 #[bx4V (cr, cg, cb, ca)] W fun e w' => e = .returned (.bool (coB (cr, cg, cb, ca))) ∧ Below W.heap.size W w') := Lib.hid (fun W => c_validColor (cr, cg, cb, ca) W)
        have Hv : Hid (stOk ss k = false) := Lib.hid (by
          have h1 := Hin.out
          simp [inB] at h1
          have : inB at_ (la + 1) 256 = false := by simp [inB]; omega
          rw [Hok.out]; dsimp only; rw [this]; rfl)
        clear hin
        go_wp2_with fail
        refine wp_region_calm [0,1,2,3,4,5,6,7,8,9,10,11,12,13,14,15,16,17,18,19,20,21,22,23,24,25,26,27,28,29,30,31,32,33] [] (by kernel_rfl) (by kernel_rfl) ?_
        iterate 5 ((first | (refine calm_yes rfl rfl (fun w' hC => (by have c0 := hC.cell c0; have c1 := hC.cell c1; have c2 := hC.cell c2; have c3 := hC.cell c3; have c4 := hC.cell c4; go_simp; rfl)) (fun K hK => ?_); go_simp; refine hK _ ?_; clear hK K) | (refine calm_no rfl rfl (fun K hK => ?_); go_simp; refine hK _ ?_; clear hK K)))
        (first | (apply calm_call rfl rfl rfl Tryz.func29 (by kernel_rfl) rfl (by go_simp; rfl); exact (fun w' hC => K1.out w'); intro K hK; go_simp; refine hK _ ?_; clear hK K) | (refine calm_no rfl rfl (fun K hK => ?_); go_simp; refine hK _ ?_; clear hK K))
        iterate 7 ((first | (refine calm_yes rfl rfl (fun w' hC => (by have c0 := hC.cell c0; have c1 := hC.cell c1; have c2 := hC.cell c2; have c3 := hC.cell c3; have c4 := hC.cell c4; go_simp; rfl)) (fun K hK => ?_); go_simp; refine hK _ ?_; clear hK K) | (refine calm_no rfl rfl (fun K hK => ?_); go_simp; refine hK _ ?_; clear hK K)))
        (first | (apply calm_call rfl rfl rfl Tryz.func153 (by kernel_rfl) rfl (by go_simp; rfl); exact (fun w' hC => K2.out w'); intro K hK; go_simp; refine hK _ ?_; clear hK K) | (refine calm_no rfl rfl (fun K hK => ?_); go_simp; refine hK _ ?_; clear hK K))
        iterate 20 ((first | (refine calm_yes rfl rfl (fun w' hC => (by have c0 := hC.cell c0; have c1 := hC.cell c1; have c2 := hC.cell c2; have c3 := hC.cell c3; have c4 := hC.cell c4; go_simp; rfl)) (fun K hK => ?_); go_simp; refine hK _ ?_; clear hK K) | (refine calm_no rfl rfl (fun K hK => ?_); go_simp; refine hK _ ?_; clear hK K)))
        refine calm_done (fun w1 hb1 => ?_)
        have E1 := Lib.hid hb1
        clear hb1
        go_wp2
        go_ret
        exact ⟨ret_bb (Hno.out Hv.out).symm, below_ext HB.out E1.out⟩
    · obtain rfl : k = ss.length := by omega
      have hall := Lib.hid (stB_all Hto.out)
      clear hto hbw hk b3
      go_wp2_with (go_at_call 29; refine (c_inRange ss.length 1 4 _).mono ?_; rintro e w' ⟨rfl, rfl⟩)
      go_ret
      exact ⟨ret_bb hall.out.symm, HB.out⟩
end Go.Proofs.YtjgpojegaojnmaaGreat
