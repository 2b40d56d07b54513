/-
  Which paths are valid: the walk of the reference.
-/
import Derived.Test.YtagmnbphbakikaaGreatPathL
import Derived.Test.YtagmnbphbakikaaGreatMg2
namespace Go.Proofs.YtagmnbphbakikaaGreat
open Go Go.RowKit Reg
attribute [local go_sem] calmAt calmUpon
set_option maxRecDepth 100000 in
set_option maxHeartbeats 8000000 in
theorem c_sValidPath (A : Option Addr) (cap : Nat) (vs : List Vb) (w : World) (h : Vbs w A vs) (hl : vs.length ≤ 1000000000) (hs : ∀ v ∈ vs, v.2.length ≤ 1000000000) :
    Calls Tryz.prog 65 #[.slice A vs.length cap] w fun e w' => e = .returned (.bool (pathOk vs)) ∧ Below w.heap.size w w' := by
  have H := Lib.hid h
  have Hs := Lib.hid hs
  clear h hs
  go_enter Tryz.func65, Tryz.ntmps65
  go_wp2_with fail
  go_loopw [3, 4, 5, 6] (fun pt i _ _ wr => ∃ k : Nat, k ≤ vs.length ∧ i = .int .i64 k ∧ pt = .int .i64 (ptsTo vs k) ∧ vbsTo vs k ∧ Below w.heap.size w wr) (fun _ i _ _ _ => vs.length - (intOf i).toNat)
  case atStart => exact ⟨0, Nat.zero_le _, rfl, rfl, fun i hi => by omega, Below.refl _ _⟩
  case round =>
    obtain ⟨k, hk, rfl, rfl, hto, hbw⟩ := hrel
    have Hto := Lib.hid hto
    have HB := Lib.hid hbw
    have hpt := ptsTo_le hto hk
    by_cases hlt : k < vs.length
    · have hne : ¬ vs = [] := by intro hh; subst hh; simp at hlt
      obtain ⟨b, off, rfl, hbl, hc⟩ := (H.out.ext verbR_stab hbw).vbs (by omega)
      obtain ⟨A1, cap1, cx, cy, hp⟩ := hc k hlt
      have hl1 : vs[k].2.length ≤ 1000000000 := Hs.out _ (List.getElem_mem hlt)
      have Hok := Lib.hid (vbOk_at hlt)
      have Hsucc := Lib.hid (ptsTo_succ hlt)
      have Hno : Hid (vbOk vs k = false → pathOk vs = false) := Lib.hid (pathOk_no hlt)
      have HPs := Lib.hid hp
      have hbeg : (begB vs k = true ∧ (((k : Nat) : Int) == 0) = true ∧ k = 0) ∨ (∃ pk : Int, (((k : Nat) : Int) == 0) = false ∧ 1 ≤ k ∧ wr.cell? ⟨b, off + (k - 1) * 2, none⟩ = some (.int .i64 pk) ∧ (((pk == 4) = true ∧ begB vs k = true) ∨ ((pk == 4) = false ∧ begB vs k = false))) := by
        rcases Nat.eq_zero_or_pos k with h0 | h0
        · left; subst h0; exact ⟨rfl, rfl, rfl⟩
        · right
          obtain ⟨_, _, cp, _, _⟩ := hc (k - 1) (by omega)
          refine ⟨vs[k - 1].1, by simp; omega, h0, cp, ?_⟩
          rw [begB_pos h0 hlt]
          by_cases h4 : vs[k - 1].1 = 4
          · left; simp [h4]
          · right; simp [h4]
      generalize vs[k] = v at *
      obtain ⟨kd, ps⟩ := v
      dsimp only at cx cy hl1 HPs
      clear hc hto hp hbw hk
      by_cases hkd : kd = 0 ∨ kd = 1 ∨ kd = 2 ∨ kd = 3 ∨ kd = 4
      · have Hbeg := Lib.hid hbeg
        clear hbeg
        rcases hkd with rfl | rfl | rfl | rfl | rfl
        · by_cases hlen : ps.length = 1
          · have hb1 : (((ps.length : Nat) : Int) != 1) = false := by simp [hlen]
            have Hlen := Lib.hid hlen
            clear hlen
            by_cases hps : psB ps = true
            · have Hps := Lib.hid hps
              clear hps
              rcases Hbeg.out with ⟨hbg, hb0, hk0⟩ | ⟨pk, hb0, hk1, cp, ⟨h4, hbg⟩ | ⟨h4, hbg⟩⟩
              · have hbg := Lib.hid hbg
                have hv : Hid (vbOk vs k = true) := Lib.hid (by rw [Hok.out, hbg.out, Hps.out]; have := Hlen.out; simp [this, manyOf, inB])
                have hI : ¬ (0 : Int) < (k : Int) := by omega
                clear hk0
                go_wp2_with (go_at_call 100; refine (c_validPoints A1 cap1 ps _ (HPs.out.ext ptR_stab (by repeat (first | exact Below.refl _ _ | assumption | refine Below.drew ?_ | refine Below.alloc ?_ (by first | exact Nat.le_refl _ | omega | (simp; done) | (simp; omega)) _ | refine Below.setCell ?_ (by first | exact Nat.le_refl _ | omega | (simp; done) | (simp; omega)) _))) (by omega)).mono ?_; rw [Hps.out]; rintro e w1 ⟨rfl, hb1⟩; obtain ⟨hc1, hf1⟩ := bcell hb1)
                go_roundw
                case rel => exact ⟨k + 1, by omega, by go_num, by rw [Hsucc.out]; push_cast; rfl, vbsTo_succ Hto.out hv.out, below_ext HB.out (Ext.trans (by repeat (first | exact Below.refl _ _ | assumption | refine Below.drew ?_ | refine Below.alloc ?_ (by first | exact Nat.le_refl _ | omega | (simp; done) | (simp; omega)) _ | refine Below.setCell ?_ (by first | exact Nat.le_refl _ | omega | (simp; done) | (simp; omega)) _)) hb1)⟩
                case measure => simp [intOf]; omega
              · have hbg := Lib.hid hbg
                have hv : Hid (vbOk vs k = true) := Lib.hid (by rw [Hok.out, hbg.out, Hps.out]; have := Hlen.out; simp [this, manyOf, inB])
                have hI : (0 : Int) < (k : Int) := by omega
                go_wp2_with (go_at_call 100; refine (c_validPoints A1 cap1 ps _ (HPs.out.ext ptR_stab (by repeat (first | exact Below.refl _ _ | assumption | refine Below.drew ?_ | refine Below.alloc ?_ (by first | exact Nat.le_refl _ | omega | (simp; done) | (simp; omega)) _ | refine Below.setCell ?_ (by first | exact Nat.le_refl _ | omega | (simp; done) | (simp; omega)) _))) (by omega)).mono ?_; rw [Hps.out]; rintro e w1 ⟨rfl, hb1⟩; obtain ⟨hc1, hf1⟩ := bcell hb1)
                go_roundw
                case rel => exact ⟨k + 1, by omega, by go_num, by rw [Hsucc.out]; push_cast; rfl, vbsTo_succ Hto.out hv.out, below_ext HB.out (Ext.trans (by repeat (first | exact Below.refl _ _ | assumption | refine Below.drew ?_ | refine Below.alloc ?_ (by first | exact Nat.le_refl _ | omega | (simp; done) | (simp; omega)) _ | refine Below.setCell ?_ (by first | exact Nat.le_refl _ | omega | (simp; done) | (simp; omega)) _)) hb1)⟩
                case measure => simp [intOf]; omega
              · have hbg := Lib.hid hbg
                have hv : Hid (vbOk vs k = true) := Lib.hid (by rw [Hok.out, hbg.out, Hps.out]; have := Hlen.out; simp [this, manyOf, inB])
                have hI : (0 : Int) < (k : Int) := by omega
                go_wp2_with (go_at_call 100; refine (c_validPoints A1 cap1 ps _ (HPs.out.ext ptR_stab (by repeat (first | exact Below.refl _ _ | assumption | refine Below.drew ?_ | refine Below.alloc ?_ (by first | exact Nat.le_refl _ | omega | (simp; done) | (simp; omega)) _ | refine Below.setCell ?_ (by first | exact Nat.le_refl _ | omega | (simp; done) | (simp; omega)) _))) (by omega)).mono ?_; rw [Hps.out]; rintro e w1 ⟨rfl, hb1⟩; obtain ⟨hc1, hf1⟩ := bcell hb1)
                go_roundw
                case rel => exact ⟨k + 1, by omega, by go_num, by rw [Hsucc.out]; push_cast; rfl, vbsTo_succ Hto.out hv.out, below_ext HB.out (Ext.trans (by repeat (first | exact Below.refl _ _ | assumption | refine Below.drew ?_ | refine Below.alloc ?_ (by first | exact Nat.le_refl _ | omega | (simp; done) | (simp; omega)) _ | refine Below.setCell ?_ (by first | exact Nat.le_refl _ | omega | (simp; done) | (simp; omega)) _)) hb1)⟩
                case measure => simp [intOf]; omega
            · simp only [Bool.not_eq_true] at hps
              have Hps := Lib.hid hps
              have hv : Hid (vbOk vs k = false) := Lib.hid (by rw [Hok.out, hps]; simp)
              clear hps
              go_wp2_with (go_at_call 100; refine (c_validPoints A1 cap1 ps _ (HPs.out.ext ptR_stab (by repeat (first | exact Below.refl _ _ | assumption | refine Below.drew ?_ | refine Below.alloc ?_ (by first | exact Nat.le_refl _ | omega | (simp; done) | (simp; omega)) _ | refine Below.setCell ?_ (by first | exact Nat.le_refl _ | omega | (simp; done) | (simp; omega)) _))) (by omega)).mono ?_; rw [Hps.out]; rintro e w1 ⟨rfl, hb1⟩; obtain ⟨hc1, hf1⟩ := bcell hb1)
              go_ret
              exact ⟨ret_bb (Hno.out hv.out).symm, below_ext HB.out (Ext.trans (by repeat (first | exact Below.refl _ _ | assumption | refine Below.drew ?_ | refine Below.alloc ?_ (by first | exact Nat.le_refl _ | omega | (simp; done) | (simp; omega)) _ | refine Below.setCell ?_ (by first | exact Nat.le_refl _ | omega | (simp; done) | (simp; omega)) _)) hb1)⟩
          · have hb1 : (((ps.length : Nat) : Int) != 1) = true := by simp; omega
            have hv : Hid (vbOk vs k = false) := Lib.hid (by
              rw [Hok.out]
              have : (ps.length == 1) = false := by simpa using hlen
              have e : manyOf (0 : Int) = 1 := by decide
              dsimp only
              rw [e, this]; simp)
            clear hlen
            go_wp2
            go_ret
            exact ⟨ret_bb (Hno.out hv.out).symm, Ext.trans HB.out (by repeat (first | exact Below.refl _ _ | assumption | refine Below.drew ?_ | refine Below.alloc ?_ (by first | exact Nat.le_refl _ | omega | (simp; done) | (simp; omega)) _ | refine Below.setCell ?_ (by first | exact Nat.le_refl _ | omega | (simp; done) | (simp; omega)) _))⟩
        · by_cases hlen : ps.length = 1
          · have hb1 : (((ps.length : Nat) : Int) != 1) = false := by simp [hlen]
            have Hlen := Lib.hid hlen
            clear hlen
            by_cases hps : psB ps = true
            · have Hps := Lib.hid hps
              clear hps
              rcases Hbeg.out with ⟨hbg, hb0, hk0⟩ | ⟨pk, hb0, hk1, cp, ⟨h4, hbg⟩ | ⟨h4, hbg⟩⟩
              · have hbg := Lib.hid hbg
                have hv : Hid (vbOk vs k = false) := Lib.hid (by rw [Hok.out, hbg.out, Hps.out]; have := Hlen.out; simp [this, manyOf, inB])
                have hI : ¬ (0 : Int) < (k : Int) := by omega
                clear hk0
                go_wp2_with (go_at_call 100; refine (c_validPoints A1 cap1 ps _ (HPs.out.ext ptR_stab (by repeat (first | exact Below.refl _ _ | assumption | refine Below.drew ?_ | refine Below.alloc ?_ (by first | exact Nat.le_refl _ | omega | (simp; done) | (simp; omega)) _ | refine Below.setCell ?_ (by first | exact Nat.le_refl _ | omega | (simp; done) | (simp; omega)) _))) (by omega)).mono ?_; rw [Hps.out]; rintro e w1 ⟨rfl, hb1⟩; obtain ⟨hc1, hf1⟩ := bcell hb1)
                go_ret
                exact ⟨ret_bb (Hno.out hv.out).symm, below_ext HB.out (Ext.trans (by repeat (first | exact Below.refl _ _ | assumption | refine Below.drew ?_ | refine Below.alloc ?_ (by first | exact Nat.le_refl _ | omega | (simp; done) | (simp; omega)) _ | refine Below.setCell ?_ (by first | exact Nat.le_refl _ | omega | (simp; done) | (simp; omega)) _)) hb1)⟩
              · have hbg := Lib.hid hbg
                have hv : Hid (vbOk vs k = false) := Lib.hid (by rw [Hok.out, hbg.out, Hps.out]; have := Hlen.out; simp [this, manyOf, inB])
                have hI : (0 : Int) < (k : Int) := by omega
                go_wp2_with (go_at_call 100; refine (c_validPoints A1 cap1 ps _ (HPs.out.ext ptR_stab (by repeat (first | exact Below.refl _ _ | assumption | refine Below.drew ?_ | refine Below.alloc ?_ (by first | exact Nat.le_refl _ | omega | (simp; done) | (simp; omega)) _ | refine Below.setCell ?_ (by first | exact Nat.le_refl _ | omega | (simp; done) | (simp; omega)) _))) (by omega)).mono ?_; rw [Hps.out]; rintro e w1 ⟨rfl, hb1⟩; obtain ⟨hc1, hf1⟩ := bcell hb1)
                go_ret
                exact ⟨ret_bb (Hno.out hv.out).symm, below_ext HB.out (Ext.trans (by repeat (first | exact Below.refl _ _ | assumption | refine Below.drew ?_ | refine Below.alloc ?_ (by first | exact Nat.le_refl _ | omega | (simp; done) | (simp; omega)) _ | refine Below.setCell ?_ (by first | exact Nat.le_refl _ | omega | (simp; done) | (simp; omega)) _)) hb1)⟩
              · have hbg := Lib.hid hbg
                have hv : Hid (vbOk vs k = true) := Lib.hid (by rw [Hok.out, hbg.out, Hps.out]; have := Hlen.out; simp [this, manyOf, inB])
                have hI : (0 : Int) < (k : Int) := by omega
                go_wp2_with (go_at_call 100; refine (c_validPoints A1 cap1 ps _ (HPs.out.ext ptR_stab (by repeat (first | exact Below.refl _ _ | assumption | refine Below.drew ?_ | refine Below.alloc ?_ (by first | exact Nat.le_refl _ | omega | (simp; done) | (simp; omega)) _ | refine Below.setCell ?_ (by first | exact Nat.le_refl _ | omega | (simp; done) | (simp; omega)) _))) (by omega)).mono ?_; rw [Hps.out]; rintro e w1 ⟨rfl, hb1⟩; obtain ⟨hc1, hf1⟩ := bcell hb1)
                go_roundw
                case rel => exact ⟨k + 1, by omega, by go_num, by rw [Hsucc.out]; push_cast; rfl, vbsTo_succ Hto.out hv.out, below_ext HB.out (Ext.trans (by repeat (first | exact Below.refl _ _ | assumption | refine Below.drew ?_ | refine Below.alloc ?_ (by first | exact Nat.le_refl _ | omega | (simp; done) | (simp; omega)) _ | refine Below.setCell ?_ (by first | exact Nat.le_refl _ | omega | (simp; done) | (simp; omega)) _)) hb1)⟩
                case measure => simp [intOf]; omega
            · simp only [Bool.not_eq_true] at hps
              have Hps := Lib.hid hps
              have hv : Hid (vbOk vs k = false) := Lib.hid (by rw [Hok.out, hps]; simp)
              clear hps
              go_wp2_with (go_at_call 100; refine (c_validPoints A1 cap1 ps _ (HPs.out.ext ptR_stab (by repeat (first | exact Below.refl _ _ | assumption | refine Below.drew ?_ | refine Below.alloc ?_ (by first | exact Nat.le_refl _ | omega | (simp; done) | (simp; omega)) _ | refine Below.setCell ?_ (by first | exact Nat.le_refl _ | omega | (simp; done) | (simp; omega)) _))) (by omega)).mono ?_; rw [Hps.out]; rintro e w1 ⟨rfl, hb1⟩; obtain ⟨hc1, hf1⟩ := bcell hb1)
              go_ret
              exact ⟨ret_bb (Hno.out hv.out).symm, below_ext HB.out (Ext.trans (by repeat (first | exact Below.refl _ _ | assumption | refine Below.drew ?_ | refine Below.alloc ?_ (by first | exact Nat.le_refl _ | omega | (simp; done) | (simp; omega)) _ | refine Below.setCell ?_ (by first | exact Nat.le_refl _ | omega | (simp; done) | (simp; omega)) _)) hb1)⟩
          · have hb1 : (((ps.length : Nat) : Int) != 1) = true := by simp; omega
            have hv : Hid (vbOk vs k = false) := Lib.hid (by
              rw [Hok.out]
              have : (ps.length == 1) = false := by simpa using hlen
              have e : manyOf (1 : Int) = 1 := by decide
              dsimp only
              rw [e, this]; simp)
            clear hlen
            go_wp2
            go_ret
            exact ⟨ret_bb (Hno.out hv.out).symm, Ext.trans HB.out (by repeat (first | exact Below.refl _ _ | assumption | refine Below.drew ?_ | refine Below.alloc ?_ (by first | exact Nat.le_refl _ | omega | (simp; done) | (simp; omega)) _ | refine Below.setCell ?_ (by first | exact Nat.le_refl _ | omega | (simp; done) | (simp; omega)) _))⟩
        · by_cases hlen : ps.length = 2
          · have hb1 : (((ps.length : Nat) : Int) != 2) = false := by simp [hlen]
            have Hlen := Lib.hid hlen
            clear hlen
            by_cases hps : psB ps = true
            · have Hps := Lib.hid hps
              clear hps
              rcases Hbeg.out with ⟨hbg, hb0, hk0⟩ | ⟨pk, hb0, hk1, cp, ⟨h4, hbg⟩ | ⟨h4, hbg⟩⟩
              · have hbg := Lib.hid hbg
                have hv : Hid (vbOk vs k = false) := Lib.hid (by rw [Hok.out, hbg.out, Hps.out]; have := Hlen.out; simp [this, manyOf, inB])
                have hI : ¬ (0 : Int) < (k : Int) := by omega
                clear hk0
                go_wp2_with (go_at_call 100; refine (c_validPoints A1 cap1 ps _ (HPs.out.ext ptR_stab (by repeat (first | exact Below.refl _ _ | assumption | refine Below.drew ?_ | refine Below.alloc ?_ (by first | exact Nat.le_refl _ | omega | (simp; done) | (simp; omega)) _ | refine Below.setCell ?_ (by first | exact Nat.le_refl _ | omega | (simp; done) | (simp; omega)) _))) (by omega)).mono ?_; rw [Hps.out]; rintro e w1 ⟨rfl, hb1⟩; obtain ⟨hc1, hf1⟩ := bcell hb1)
                go_ret
                exact ⟨ret_bb (Hno.out hv.out).symm, below_ext HB.out (Ext.trans (by repeat (first | exact Below.refl _ _ | assumption | refine Below.drew ?_ | refine Below.alloc ?_ (by first | exact Nat.le_refl _ | omega | (simp; done) | (simp; omega)) _ | refine Below.setCell ?_ (by first | exact Nat.le_refl _ | omega | (simp; done) | (simp; omega)) _)) hb1)⟩
              · have hbg := Lib.hid hbg
                have hv : Hid (vbOk vs k = false) := Lib.hid (by rw [Hok.out, hbg.out, Hps.out]; have := Hlen.out; simp [this, manyOf, inB])
                have hI : (0 : Int) < (k : Int) := by omega
                go_wp2_with (go_at_call 100; refine (c_validPoints A1 cap1 ps _ (HPs.out.ext ptR_stab (by repeat (first | exact Below.refl _ _ | assumption | refine Below.drew ?_ | refine Below.alloc ?_ (by first | exact Nat.le_refl _ | omega | (simp; done) | (simp; omega)) _ | refine Below.setCell ?_ (by first | exact Nat.le_refl _ | omega | (simp; done) | (simp; omega)) _))) (by omega)).mono ?_; rw [Hps.out]; rintro e w1 ⟨rfl, hb1⟩; obtain ⟨hc1, hf1⟩ := bcell hb1)
                go_ret
                exact ⟨ret_bb (Hno.out hv.out).symm, below_ext HB.out (Ext.trans (by repeat (first | exact Below.refl _ _ | assumption | refine Below.drew ?_ | refine Below.alloc ?_ (by first | exact Nat.le_refl _ | omega | (simp; done) | (simp; omega)) _ | refine Below.setCell ?_ (by first | exact Nat.le_refl _ | omega | (simp; done) | (simp; omega)) _)) hb1)⟩
              · have hbg := Lib.hid hbg
                have hv : Hid (vbOk vs k = true) := Lib.hid (by rw [Hok.out, hbg.out, Hps.out]; have := Hlen.out; simp [this, manyOf, inB])
                have hI : (0 : Int) < (k : Int) := by omega
                go_wp2_with (go_at_call 100; refine (c_validPoints A1 cap1 ps _ (HPs.out.ext ptR_stab (by repeat (first | exact Below.refl _ _ | assumption | refine Below.drew ?_ | refine Below.alloc ?_ (by first | exact Nat.le_refl _ | omega | (simp; done) | (simp; omega)) _ | refine Below.setCell ?_ (by first | exact Nat.le_refl _ | omega | (simp; done) | (simp; omega)) _))) (by omega)).mono ?_; rw [Hps.out]; rintro e w1 ⟨rfl, hb1⟩; obtain ⟨hc1, hf1⟩ := bcell hb1)
                go_roundw
                case rel => exact ⟨k + 1, by omega, by go_num, by rw [Hsucc.out]; push_cast; rfl, vbsTo_succ Hto.out hv.out, below_ext HB.out (Ext.trans (by repeat (first | exact Below.refl _ _ | assumption | refine Below.drew ?_ | refine Below.alloc ?_ (by first | exact Nat.le_refl _ | omega | (simp; done) | (simp; omega)) _ | refine Below.setCell ?_ (by first | exact Nat.le_refl _ | omega | (simp; done) | (simp; omega)) _)) hb1)⟩
                case measure => simp [intOf]; omega
            · simp only [Bool.not_eq_true] at hps
              have Hps := Lib.hid hps
              have hv : Hid (vbOk vs k = false) := Lib.hid (by rw [Hok.out, hps]; simp)
              clear hps
              go_wp2_with (go_at_call 100; refine (c_validPoints A1 cap1 ps _ (HPs.out.ext ptR_stab (by repeat (first | exact Below.refl _ _ | assumption | refine Below.drew ?_ | refine Below.alloc ?_ (by first | exact Nat.le_refl _ | omega | (simp; done) | (simp; omega)) _ | refine Below.setCell ?_ (by first | exact Nat.le_refl _ | omega | (simp; done) | (simp; omega)) _))) (by omega)).mono ?_; rw [Hps.out]; rintro e w1 ⟨rfl, hb1⟩; obtain ⟨hc1, hf1⟩ := bcell hb1)
              go_ret
              exact ⟨ret_bb (Hno.out hv.out).symm, below_ext HB.out (Ext.trans (by repeat (first | exact Below.refl _ _ | assumption | refine Below.drew ?_ | refine Below.alloc ?_ (by first | exact Nat.le_refl _ | omega | (simp; done) | (simp; omega)) _ | refine Below.setCell ?_ (by first | exact Nat.le_refl _ | omega | (simp; done) | (simp; omega)) _)) hb1)⟩
          · have hb1 : (((ps.length : Nat) : Int) != 2) = true := by simp; omega
            have hv : Hid (vbOk vs k = false) := Lib.hid (by
              rw [Hok.out]
              have : (ps.length == 2) = false := by simpa using hlen
              have e : manyOf (2 : Int) = 2 := by decide
              dsimp only
              rw [e, this]; simp)
            clear hlen
            go_wp2
            go_ret
            exact ⟨ret_bb (Hno.out hv.out).symm, Ext.trans HB.out (by repeat (first | exact Below.refl _ _ | assumption | refine Below.drew ?_ | refine Below.alloc ?_ (by first | exact Nat.le_refl _ | omega | (simp; done) | (simp; omega)) _ | refine Below.setCell ?_ (by first | exact Nat.le_refl _ | omega | (simp; done) | (simp; omega)) _))⟩
        · by_cases hlen : ps.length = 3
          · have hb1 : (((ps.length : Nat) : Int) != 3) = false := by simp [hlen]
            have Hlen := Lib.hid hlen
            clear hlen
            by_cases hps : psB ps = true
            · have Hps := Lib.hid hps
              clear hps
              rcases Hbeg.out with ⟨hbg, hb0, hk0⟩ | ⟨pk, hb0, hk1, cp, ⟨h4, hbg⟩ | ⟨h4, hbg⟩⟩
              · have hbg := Lib.hid hbg
                have hv : Hid (vbOk vs k = false) := Lib.hid (by rw [Hok.out, hbg.out, Hps.out]; have := Hlen.out; simp [this, manyOf, inB])
                have hI : ¬ (0 : Int) < (k : Int) := by omega
                clear hk0
                go_wp2_with (go_at_call 100; refine (c_validPoints A1 cap1 ps _ (HPs.out.ext ptR_stab (by repeat (first | exact Below.refl _ _ | assumption | refine Below.drew ?_ | refine Below.alloc ?_ (by first | exact Nat.le_refl _ | omega | (simp; done) | (simp; omega)) _ | refine Below.setCell ?_ (by first | exact Nat.le_refl _ | omega | (simp; done) | (simp; omega)) _))) (by omega)).mono ?_; rw [Hps.out]; rintro e w1 ⟨rfl, hb1⟩; obtain ⟨hc1, hf1⟩ := bcell hb1)
                go_ret
                exact ⟨ret_bb (Hno.out hv.out).symm, below_ext HB.out (Ext.trans (by repeat (first | exact Below.refl _ _ | assumption | refine Below.drew ?_ | refine Below.alloc ?_ (by first | exact Nat.le_refl _ | omega | (simp; done) | (simp; omega)) _ | refine Below.setCell ?_ (by first | exact Nat.le_refl _ | omega | (simp; done) | (simp; omega)) _)) hb1)⟩
              · have hbg := Lib.hid hbg
                have hv : Hid (vbOk vs k = false) := Lib.hid (by rw [Hok.out, hbg.out, Hps.out]; have := Hlen.out; simp [this, manyOf, inB])
                have hI : (0 : Int) < (k : Int) := by omega
                go_wp2_with (go_at_call 100; refine (c_validPoints A1 cap1 ps _ (HPs.out.ext ptR_stab (by repeat (first | exact Below.refl _ _ | assumption | refine Below.drew ?_ | refine Below.alloc ?_ (by first | exact Nat.le_refl _ | omega | (simp; done) | (simp; omega)) _ | refine Below.setCell ?_ (by first | exact Nat.le_refl _ | omega | (simp; done) | (simp; omega)) _))) (by omega)).mono ?_; rw [Hps.out]; rintro e w1 ⟨rfl, hb1⟩; obtain ⟨hc1, hf1⟩ := bcell hb1)
                go_ret
                exact ⟨ret_bb (Hno.out hv.out).symm, below_ext HB.out (Ext.trans (by repeat (first | exact Below.refl _ _ | assumption | refine Below.drew ?_ | refine Below.alloc ?_ (by first | exact Nat.le_refl _ | omega | (simp; done) | (simp; omega)) _ | refine Below.setCell ?_ (by first | exact Nat.le_refl _ | omega | (simp; done) | (simp; omega)) _)) hb1)⟩
              · have hbg := Lib.hid hbg
                have hv : Hid (vbOk vs k = true) := Lib.hid (by rw [Hok.out, hbg.out, Hps.out]; have := Hlen.out; simp [this, manyOf, inB])
                have hI : (0 : Int) < (k : Int) := by omega
                go_wp2_with (go_at_call 100; refine (c_validPoints A1 cap1 ps _ (HPs.out.ext ptR_stab (by repeat (first | exact Below.refl _ _ | assumption | refine Below.drew ?_ | refine Below.alloc ?_ (by first | exact Nat.le_refl _ | omega | (simp; done) | (simp; omega)) _ | refine Below.setCell ?_ (by first | exact Nat.le_refl _ | omega | (simp; done) | (simp; omega)) _))) (by omega)).mono ?_; rw [Hps.out]; rintro e w1 ⟨rfl, hb1⟩; obtain ⟨hc1, hf1⟩ := bcell hb1)
                go_roundw
                case rel => exact ⟨k + 1, by omega, by go_num, by rw [Hsucc.out]; push_cast; rfl, vbsTo_succ Hto.out hv.out, below_ext HB.out (Ext.trans (by repeat (first | exact Below.refl _ _ | assumption | refine Below.drew ?_ | refine Below.alloc ?_ (by first | exact Nat.le_refl _ | omega | (simp; done) | (simp; omega)) _ | refine Below.setCell ?_ (by first | exact Nat.le_refl _ | omega | (simp; done) | (simp; omega)) _)) hb1)⟩
                case measure => simp [intOf]; omega
            · simp only [Bool.not_eq_true] at hps
              have Hps := Lib.hid hps
              have hv : Hid (vbOk vs k = false) := Lib.hid (by rw [Hok.out, hps]; simp)
              clear hps
              go_wp2_with (go_at_call 100; refine (c_validPoints A1 cap1 ps _ (HPs.out.ext ptR_stab (by repeat (first | exact Below.refl _ _ | assumption | refine Below.drew ?_ | refine Below.alloc ?_ (by first | exact Nat.le_refl _ | omega | (simp; done) | (simp; omega)) _ | refine Below.setCell ?_ (by first | exact Nat.le_refl _ | omega | (simp; done) | (simp; omega)) _))) (by omega)).mono ?_; rw [Hps.out]; rintro e w1 ⟨rfl, hb1⟩; obtain ⟨hc1, hf1⟩ := bcell hb1)
              go_ret
              exact ⟨ret_bb (Hno.out hv.out).symm, below_ext HB.out (Ext.trans (by repeat (first | exact Below.refl _ _ | assumption | refine Below.drew ?_ | refine Below.alloc ?_ (by first | exact Nat.le_refl _ | omega | (simp; done) | (simp; omega)) _ | refine Below.setCell ?_ (by first | exact Nat.le_refl _ | omega | (simp; done) | (simp; omega)) _)) hb1)⟩
          · have hb1 : (((ps.length : Nat) : Int) != 3) = true := by simp; omega
            have hv : Hid (vbOk vs k = false) := Lib.hid (by
              rw [Hok.out]
              have : (ps.length == 3) = false := by simpa using hlen
              have e : manyOf (3 : Int) = 3 := by decide
              dsimp only
              rw [e, this]; simp)
            clear hlen
            go_wp2
            go_ret
            exact ⟨ret_bb (Hno.out hv.out).symm, Ext.trans HB.out (by repeat (first | exact Below.refl _ _ | assumption | refine Below.drew ?_ | refine Below.alloc ?_ (by first | exact Nat.le_refl _ | omega | (simp; done) | (simp; omega)) _ | refine Below.setCell ?_ (by first | exact Nat.le_refl _ | omega | (simp; done) | (simp; omega)) _))⟩
        · by_cases hlen : ps.length = 0
          · have hb1 : (((ps.length : Nat) : Int) != 0) = false := by simp [hlen]
            have Hlen := Lib.hid hlen
            clear hlen
            by_cases hps : psB ps = true
            · have Hps := Lib.hid hps
              clear hps
              rcases Hbeg.out with ⟨hbg, hb0, hk0⟩ | ⟨pk, hb0, hk1, cp, ⟨h4, hbg⟩ | ⟨h4, hbg⟩⟩
              · have hbg := Lib.hid hbg
                have hv : Hid (vbOk vs k = false) := Lib.hid (by rw [Hok.out, hbg.out, Hps.out]; have := Hlen.out; simp [this, manyOf, inB])
                have hI : ¬ (0 : Int) < (k : Int) := by omega
                clear hk0
                go_wp2_with (go_at_call 100; refine (c_validPoints A1 cap1 ps _ (HPs.out.ext ptR_stab (by repeat (first | exact Below.refl _ _ | assumption | refine Below.drew ?_ | refine Below.alloc ?_ (by first | exact Nat.le_refl _ | omega | (simp; done) | (simp; omega)) _ | refine Below.setCell ?_ (by first | exact Nat.le_refl _ | omega | (simp; done) | (simp; omega)) _))) (by omega)).mono ?_; rw [Hps.out]; rintro e w1 ⟨rfl, hb1⟩; obtain ⟨hc1, hf1⟩ := bcell hb1)
                go_ret
                exact ⟨ret_bb (Hno.out hv.out).symm, below_ext HB.out (Ext.trans (by repeat (first | exact Below.refl _ _ | assumption | refine Below.drew ?_ | refine Below.alloc ?_ (by first | exact Nat.le_refl _ | omega | (simp; done) | (simp; omega)) _ | refine Below.setCell ?_ (by first | exact Nat.le_refl _ | omega | (simp; done) | (simp; omega)) _)) hb1)⟩
              · have hbg := Lib.hid hbg
                have hv : Hid (vbOk vs k = false) := Lib.hid (by rw [Hok.out, hbg.out, Hps.out]; have := Hlen.out; simp [this, manyOf, inB])
                have hI : (0 : Int) < (k : Int) := by omega
                go_wp2_with (go_at_call 100; refine (c_validPoints A1 cap1 ps _ (HPs.out.ext ptR_stab (by repeat (first | exact Below.refl _ _ | assumption | refine Below.drew ?_ | refine Below.alloc ?_ (by first | exact Nat.le_refl _ | omega | (simp; done) | (simp; omega)) _ | refine Below.setCell ?_ (by first | exact Nat.le_refl _ | omega | (simp; done) | (simp; omega)) _))) (by omega)).mono ?_; rw [Hps.out]; rintro e w1 ⟨rfl, hb1⟩; obtain ⟨hc1, hf1⟩ := bcell hb1)
                go_ret
                exact ⟨ret_bb (Hno.out hv.out).symm, below_ext HB.out (Ext.trans (by repeat (first | exact Below.refl _ _ | assumption | refine Below.drew ?_ | refine Below.alloc ?_ (by first | exact Nat.le_refl _ | omega | (simp; done) | (simp; omega)) _ | refine Below.setCell ?_ (by first | exact Nat.le_refl _ | omega | (simp; done) | (simp; omega)) _)) hb1)⟩
              · have hbg := Lib.hid hbg
                have hv : Hid (vbOk vs k = true) := Lib.hid (by rw [Hok.out, hbg.out, Hps.out]; have := Hlen.out; simp [this, manyOf, inB])
                have hI : (0 : Int) < (k : Int) := by omega
                go_wp2_with (go_at_call 100; refine (c_validPoints A1 cap1 ps _ (HPs.out.ext ptR_stab (by repeat (first | exact Below.refl _ _ | assumption | refine Below.drew ?_ | refine Below.alloc ?_ (by first | exact Nat.le_refl _ | omega | (simp; done) | (simp; omega)) _ | refine Below.setCell ?_ (by first | exact Nat.le_refl _ | omega | (simp; done) | (simp; omega)) _))) (by omega)).mono ?_; rw [Hps.out]; rintro e w1 ⟨rfl, hb1⟩; obtain ⟨hc1, hf1⟩ := bcell hb1)
                go_roundw
                case rel => exact ⟨k + 1, by omega, by go_num, by rw [Hsucc.out]; push_cast; rfl, vbsTo_succ Hto.out hv.out, below_ext HB.out (Ext.trans (by repeat (first | exact Below.refl _ _ | assumption | refine Below.drew ?_ | refine Below.alloc ?_ (by first | exact Nat.le_refl _ | omega | (simp; done) | (simp; omega)) _ | refine Below.setCell ?_ (by first | exact Nat.le_refl _ | omega | (simp; done) | (simp; omega)) _)) hb1)⟩
                case measure => simp [intOf]; omega
            · simp only [Bool.not_eq_true] at hps
              have Hps := Lib.hid hps
              have hv : Hid (vbOk vs k = false) := Lib.hid (by rw [Hok.out, hps]; simp)
              clear hps
              go_wp2_with (go_at_call 100; refine (c_validPoints A1 cap1 ps _ (HPs.out.ext ptR_stab (by repeat (first | exact Below.refl _ _ | assumption | refine Below.drew ?_ | refine Below.alloc ?_ (by first | exact Nat.le_refl _ | omega | (simp; done) | (simp; omega)) _ | refine Below.setCell ?_ (by first | exact Nat.le_refl _ | omega | (simp; done) | (simp; omega)) _))) (by omega)).mono ?_; rw [Hps.out]; rintro e w1 ⟨rfl, hb1⟩; obtain ⟨hc1, hf1⟩ := bcell hb1)
              go_ret
              exact ⟨ret_bb (Hno.out hv.out).symm, below_ext HB.out (Ext.trans (by repeat (first | exact Below.refl _ _ | assumption | refine Below.drew ?_ | refine Below.alloc ?_ (by first | exact Nat.le_refl _ | omega | (simp; done) | (simp; omega)) _ | refine Below.setCell ?_ (by first | exact Nat.le_refl _ | omega | (simp; done) | (simp; omega)) _)) hb1)⟩
          · have hb1 : (((ps.length : Nat) : Int) != 0) = true := by simp; intro hh; subst hh; simp at hlen
            have hv : Hid (vbOk vs k = false) := Lib.hid (by
              rw [Hok.out]
              have : (ps.length == 0) = false := by simpa using hlen
              have e : manyOf (4 : Int) = 0 := by decide
              dsimp only
              rw [e, this]; simp)
            clear hlen
            go_wp2
            go_ret
            exact ⟨ret_bb (Hno.out hv.out).symm, Ext.trans HB.out (by repeat (first | exact Below.refl _ _ | assumption | refine Below.drew ?_ | refine Below.alloc ?_ (by first | exact Nat.le_refl _ | omega | (simp; done) | (simp; omega)) _ | refine Below.setCell ?_ (by first | exact Nat.le_refl _ | omega | (simp; done) | (simp; omega)) _))⟩
      · have h5 : ((kd == 0) = false ∧ (kd == 1) = false) ∧ (kd == 2) = false ∧ (kd == 3) = false ∧ (kd == 4) = false := by
          simp only [beq_eq_false_iff_ne, ne_eq]; omega
        obtain ⟨⟨h5a, h5b⟩, h5c, h5d, h5e⟩ := h5
        have hv : Hid (vbOk vs k = false) := Lib.hid (by
          have : inB kd 0 4 = false := by simp [inB]; omega
          rw [Hok.out, this]; rfl)
        clear hkd hbeg
        go_wp2
        go_ret
        exact ⟨ret_bb (Hno.out hv.out).symm, HB.out⟩
    · obtain rfl : k = vs.length := by omega
      have hall := Lib.hid (pathOk_all Hto.out)
      clear hto hbw hk
      by_cases h30 : vs.length ≤ 30
      · have hI : ((vs.length : Nat) : Int) ≤ 30 := by omega
        by_cases h40 : ptsTo vs vs.length ≤ 40
        · have hJ : ((ptsTo vs vs.length : Nat) : Int) ≤ 40 := by omega
          go_wp2
          go_ret
          exact ⟨ret_bb (by rw [hall.out]; simp [h30, h40]), HB.out⟩
        · have hJ : ¬ ((ptsTo vs vs.length : Nat) : Int) ≤ 40 := by omega
          go_wp2
          go_ret
          exact ⟨ret_bb (by rw [hall.out]; simp [h40]), HB.out⟩
      · have hI : ¬ ((vs.length : Nat) : Int) ≤ 30 := by omega
        go_wp2
        go_ret
        exact ⟨ret_bb (by rw [hall.out]; simp [h30]), HB.out⟩
end Go.Proofs.YtagmnbphbakikaaGreat
