/-
  Polygons in memory: which are valid, and their edges.
-/
import Derived.Test.YteknlifgejpjfaaPts
import Derived.Test.YteknlifgejpjfaaWindL
import Derived.Test.YteknlifgejpjfaaOpen
import Derived.Test.YteknlifgejpjfaaStep
namespace Go.Proofs.Yteknlifgejpjfaa
open Go Go.RowKit Go.ChangeShapes Go.WideShapes Go.ChangeAt Go.Deep Reg
attribute [local go_sem] calmAt calmUpon
abbrev rgR : World → Rg → List Value → Prop := slR ptR 2
theorem rgR_stab : Stab rgR := slR_stab ptR_stab
abbrev Rgs (w : World) (A : Option Addr) (rs : List Rg) : Prop := In rgR 1 w A rs
theorem In.rgs {w : World} {A : Option Addr} {rs : List Rg} (h : Rgs w A rs) (hn : 0 < rs.length) : ∃ b off, A = some ⟨b, off, none⟩ ∧ b < w.heap.size ∧
    ∀ (k : Nat) (h : k < rs.length), ∃ A' cap', w.cell? ⟨b, off + k, none⟩ = some (.slice A' rs[k].length cap') ∧ Pts w A' rs[k] ∧ rs[k].length ≤ cap' ∧ cap' ≤ 9223372036854775807 := by
  have hlt := h.lt (by omega) hn
  obtain ⟨b, off, hA, hc⟩ := h hn
  refine ⟨b, off, hA, hlt b off hA, fun k hk => ?_⟩
  obtain ⟨us, ⟨A', cap', h1, h2, h4, h5, h6, _⟩, _, h3⟩ := hc k hk
  subst h1
  have := h3 0 _ rfl
  simp only [Nat.mul_one, Nat.add_zero] at this
  exact ⟨A', cap', this, h2, h5, by unfold maxLen at h6; exact h6⟩
theorem corners_take {rs : List Rg} {k : Nat} (hk : k < rs.length) : corners (rs.take (k + 1)) = corners (rs.take k) + rs[k].length := by
  rw [List.take_succ_eq_append_getElem hk, corners_snoc]
theorem corners_bd {rs : List Rg} (h : rs.all rgB = true) : corners rs ≤ 40 * rs.length := by
  induction rs with
  | nil => simp [corners]
  | cons r rs ih =>
    simp only [List.all_cons, Bool.and_eq_true, rgB] at h
    have := ih h.2
    have := psB_len h.1.2
    rw [corners_cons, List.length_cons]; omega
theorem rgsB_false {rs : List Rg} {k : Nat} (hk : k < rs.length) (h : rgB rs[k] = false) : rgsB rs = false := by
  unfold rgsB; rw [all_false_of hk h]; rfl
theorem rgsB_all {rs : List Rg} (h : rs.all rgB = true) : rgsB rs = (decide (rs.length ≤ 8) && decide (corners rs ≤ 200)) := by
  unfold rgsB; rw [h]; rfl
set_option maxRecDepth 100000 in
set_option maxHeartbeats 2000000 in
theorem c_iValidRings (A : Option Addr) (cap : Nat) (rs : List Rg) (w : World) (h : Rgs w A rs) (hl : rs.length ≤ 1000000000) (hs : ∀ r ∈ rs, r.length ≤ 1000000000) :
    Calls Try.prog 24 #[.slice A rs.length cap] w fun e w' => e = .returned (.bool (rgsB rs)) ∧ Below w.heap.size w w' := by
  obtain ⟨V, hV⟩ : ∃ V, rgsB rs = V := ⟨_, rfl⟩
  rw [hV]
  have HV := Lib.hid hV
  have H := Lib.hid h
  have Hs := Lib.hid hs
  clear hV h hs
  go_enter Try.func24, Try.ntmps24
  go_wp2_with fail
  go_loopw [3, 8] (fun c i wr => ∃ k m : Nat, k ≤ rs.length ∧ i = .int .i64 k ∧ c = .int .i64 (m : Int) ∧ m = corners (rs.take k) ∧ (rs.take k).all rgB = true ∧ Below w.heap.size w wr) (fun _ i _ => rs.length - (intOf i).toNat)
  case atStart => exact ⟨0, 0, Nat.zero_le _, rfl, rfl, rfl, by simp, Below.refl _ _⟩
  case round =>
    obtain ⟨k, m, hk, rfl, rfl, hm, hal, hbw⟩ := hrel
    have hmb := corners_bd hal
    rw [← hm, List.length_take] at hmb
    have Hm := Lib.hid hm
    have Hal := Lib.hid hal
    have E := Lib.hid hbw
    clear hm hal hbw
    by_cases hlt : k < rs.length
    · obtain ⟨b, off, hA, _, hc⟩ := (H.out.ext rgR_stab E.out).rgs (by omega)
      subst hA
      obtain ⟨A', cap', cr, hp, hle, hmx⟩ := hc k hlt
      have Hp := Lib.hid hp
      have Cr := Lib.hid cr
      have hrl : rs[k].length ≤ 1000000000 := Hs.out _ (List.getElem_mem hlt)
      have Hno : Hid (rgB rs[k] = false → V = false) := Lib.hid (fun h => by rw [← HV.out]; exact rgsB_false hlt h)
      have Hyes : Hid (rgB rs[k] = true → (rs.take (k + 1)).all rgB = true) := Lib.hid (fun h => all_take_succ Hal.out hlt h)
      have Hct := Lib.hid (corners_take hlt)
      clear hc hp cr
      generalize rs[k] = r at *
      have cCr := Cr.out
      by_cases h0 : r.length = 0
      · have hb0 : (((r.length : Nat) : Int) == 0) = true := by simp; exact List.eq_nil_of_length_eq_zero h0
        have hr : rgB r = false := by simp [rgB, h0]
        have Hf := Lib.hid (Hno.out hr)
        clear h0 hr
        go_wp2
        go_ret
        exact ⟨ret_bb (by rw [Hf.out]), E.out⟩
      · have hb0 : (((r.length : Nat) : Int) == 0) = false := by simp; intro hh; subst hh; simp at h0
        have hne : ¬ r = [] := by intro hh; subst hh; simp at h0
        obtain ⟨d, hd⟩ : ∃ d, psB r = d := ⟨_, rfl⟩
        have Hd := Lib.hid hd
        have hl40 : d = true → r.length ≤ 40 := fun h => psB_len (by rw [hd, h])
        have H40 := Lib.hid hl40
        have hrb : rgB r = d := by unfold rgB; rw [hd]; simp; intro _; omega
        have Hrb := Lib.hid hrb
        clear hd hl40 hrb h0
        go_wp2_with fail
        clear cCr
        refine (c_pointsValid A' cap' r _ Hp.out (by omega)).mono ?_
        rw [Hd.out]
        rintro e w2 ⟨rfl, hb⟩
        replace E := Lib.hid (Ext.trans E.out hb)
        replace Hp := Lib.hid (Hp.out.ext ptR_stab hb)
        replace Cr := Lib.hid (Cls.cell hb Cr.out)
        clear hb
        have cCr := Cr.out
        cases d
        · have Hf := Lib.hid (Hno.out Hrb.out)
          go_wp2
          go_ret
          exact ⟨ret_bb (by rw [Hf.out]), E.out⟩
        · have h40 := H40.out rfl
          have Hal2 := Lib.hid (Hyes.out Hrb.out)
          go_wp2
          go_roundw
          case rel => exact ⟨k + 1, m + r.length, by omega, by go_num, by congr 1, by rw [Hct.out, Hm.out], Hal2.out, E.out⟩
          case measure => simp [intOf]; omega
    · have hk' : k = rs.length := by omega
      have hall := Hal.out
      have hm2 := Hm.out
      rw [hk', List.take_length] at hall hm2
      have Hv : Hid (V = (decide (rs.length ≤ 8) && decide (m ≤ 200))) := Lib.hid (by rw [← HV.out, rgsB_all hall, hm2])
      clear hk' hall hm2
      by_cases h8 : rs.length ≤ 8
      · have h8' : ((rs.length : Nat) : Int) ≤ 8 := by omega
        go_wp2
        go_ret
        exact ⟨ret_bb (by rw [Hv.out]; simp [h8] <;> omega), E.out⟩
      · have h8' : ¬ ((rs.length : Nat) : Int) ≤ 8 := by omega
        go_wp2
        go_ret
        exact ⟨ret_bb (by rw [Hv.out]; simp [h8] <;> omega), E.out⟩
set_option maxRecDepth 100000 in
set_option maxHeartbeats 2000000 in
theorem c_sValidRings (A : Option Addr) (cap : Nat) (rs : List Rg) (w : World) (h : Rgs w A rs) (hl : rs.length ≤ 1000000000) (hs : ∀ r ∈ rs, r.length ≤ 1000000000) :
    Calls Try.prog 20 #[.slice A rs.length cap] w fun e w' => e = .returned (.bool (rgsB rs)) ∧ Below w.heap.size w w' := by
  obtain ⟨V, hV⟩ : ∃ V, rgsB rs = V := ⟨_, rfl⟩
  rw [hV]
  have HV := Lib.hid hV
  have H := Lib.hid h
  have Hs := Lib.hid hs
  clear hV h hs
  go_enter Try.func20, Try.ntmps20
  go_wp2_with fail
  go_loopw [3, 4] (fun c i wr => ∃ k m : Nat, k ≤ rs.length ∧ i = .int .i64 k ∧ c = .int .i64 (m : Int) ∧ m = corners (rs.take k) ∧ (rs.take k).all rgB = true ∧ Below w.heap.size w wr) (fun _ i _ => rs.length - (intOf i).toNat)
  case atStart => exact ⟨0, 0, Nat.zero_le _, rfl, rfl, rfl, by simp, Below.refl _ _⟩
  case round =>
    obtain ⟨k, m, hk, rfl, rfl, hm, hal, hbw⟩ := hrel
    have hmb := corners_bd hal
    rw [← hm, List.length_take] at hmb
    have Hm := Lib.hid hm
    have Hal := Lib.hid hal
    have E := Lib.hid hbw
    clear hm hal hbw
    by_cases hlt : k < rs.length
    · obtain ⟨b, off, hA, _, hc⟩ := (H.out.ext rgR_stab E.out).rgs (by omega)
      subst hA
      obtain ⟨A', cap', cr, hp, hle, hmx⟩ := hc k hlt
      have Hp := Lib.hid hp
      have Cr := Lib.hid cr
      have hrl : rs[k].length ≤ 1000000000 := Hs.out _ (List.getElem_mem hlt)
      have Hno : Hid (rgB rs[k] = false → V = false) := Lib.hid (fun h => by rw [← HV.out]; exact rgsB_false hlt h)
      have Hyes : Hid (rgB rs[k] = true → (rs.take (k + 1)).all rgB = true) := Lib.hid (fun h => all_take_succ Hal.out hlt h)
      have Hct := Lib.hid (corners_take hlt)
      clear hc hp cr
      generalize rs[k] = r at *
      have cCr := Cr.out
      by_cases h0 : r.length = 0
      · have hb0 : (((r.length : Nat) : Int) == 0) = true := by simp; exact List.eq_nil_of_length_eq_zero h0
        have hr : rgB r = false := by simp [rgB, h0]
        have Hf := Lib.hid (Hno.out hr)
        clear h0 hr
        go_wp2
        go_ret
        exact ⟨ret_bb (by rw [Hf.out]), E.out⟩
      · have hb0 : (((r.length : Nat) : Int) == 0) = false := by simp; intro hh; subst hh; simp at h0
        have hne : ¬ r = [] := by intro hh; subst hh; simp at h0
        obtain ⟨d, hd⟩ : ∃ d, psB r = d := ⟨_, rfl⟩
        have Hd := Lib.hid hd
        have hl40 : d = true → r.length ≤ 40 := fun h => psB_len (by rw [hd, h])
        have H40 := Lib.hid hl40
        have hrb : rgB r = d := by unfold rgB; rw [hd]; simp; intro _; omega
        have Hrb := Lib.hid hrb
        clear hd hl40 hrb h0
        go_wp2_with fail
        clear cCr
        refine (c_validPoints A' cap' r _ Hp.out (by omega)).mono ?_
        rw [Hd.out]
        rintro e w2 ⟨rfl, hb⟩
        replace E := Lib.hid (Ext.trans E.out hb)
        replace Hp := Lib.hid (Hp.out.ext ptR_stab hb)
        replace Cr := Lib.hid (Cls.cell hb Cr.out)
        clear hb
        have cCr := Cr.out
        cases d
        · have Hf := Lib.hid (Hno.out Hrb.out)
          go_wp2
          go_ret
          exact ⟨ret_bb (by rw [Hf.out]), E.out⟩
        · have h40 := H40.out rfl
          have Hal2 := Lib.hid (Hyes.out Hrb.out)
          go_wp2
          go_roundw
          case rel => exact ⟨k + 1, m + r.length, by omega, by go_num, by congr 1, by rw [Hct.out, Hm.out], Hal2.out, E.out⟩
          case measure => simp [intOf]; omega
    · have hk' : k = rs.length := by omega
      have hall := Hal.out
      have hm2 := Hm.out
      rw [hk', List.take_length] at hall hm2
      have Hv : Hid (V = (decide (rs.length ≤ 8) && decide (m ≤ 200))) := Lib.hid (by rw [← HV.out, rgsB_all hall, hm2])
      clear hk' hall hm2
      by_cases h8 : rs.length ≤ 8
      · have h8' : ((rs.length : Nat) : Int) ≤ 8 := by omega
        go_wp2
        go_ret
        exact ⟨ret_bb (by rw [Hv.out]; simp [h8] <;> omega), E.out⟩
      · have h8' : ¬ ((rs.length : Nat) : Int) ≤ 8 := by omega
        go_wp2
        go_ret
        exact ⟨ret_bb (by rw [Hv.out]; simp [h8] <;> omega), E.out⟩
end Go.Proofs.Yteknlifgejpjfaa
