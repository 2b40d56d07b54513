/-
  Which paths are valid: the walks.
-/
import Derived.Test.YtagmnbphbakikaaGreatPathL
import Derived.Test.YtagmnbphbakikaaGreatMg2
namespace Go.Proofs.YtagmnbphbakikaaGreat
open Go Go.RowKit Reg
attribute [local go_sem] calmAt calmUpon
set_option maxRecDepth 100000 in
set_option maxHeartbeats 8000000 in
theorem c_iValidPath (A : Option Addr) (cap : Nat) (vs : List Vb) (w : World) (h : Vbs w A vs) (hl : vs.length ≤ 1000000000) (hs : ∀ v ∈ vs, v.2.length ≤ 1000000000) :
    Calls Tryz.prog 115 #[.slice A vs.length cap] w fun e w' => e = .returned (.bool (pathOk vs)) ∧ Below w.heap.size w w' := by
  have H := Lib.hid h
  have Hs := Lib.hid hs
  clear h hs
  go_enter Tryz.func115, Tryz.ntmps115
  have R0 : Hid (Row (w.alloc (.cells #[.int .i64 1, .int .i64 1, .int .i64 2, .int .i64 3, .int .i64 0] 3)) w.heap.size 3 [.int .i64 1, .int .i64 1, .int .i64 2, .int .i64 3, .int .i64 0]) := Lib.hid (Row.new w 3 [.int .i64 1, .int .i64 1, .int .i64 2, .int .i64 3, .int .i64 0])
  go_wp2_with fail
  go_loopw [4, 5, 6, 7, 11] (fun pt _ _ _ i wr => ∃ k : Nat, k ≤ vs.length ∧ i = .int .i64 k ∧ pt = .int .i64 (ptsTo vs k) ∧ vbsTo vs k ∧ Row wr w.heap.size 3 [.int .i64 1, .int .i64 1, .int .i64 2, .int .i64 3, .int .i64 0] ∧ Below w.heap.size w wr) (fun _ _ _ _ i _ => vs.length - (intOf i).toNat)
  case atStart => exact ⟨0, Nat.zero_le _, rfl, rfl, fun i hi => by omega, R0.out, ext_alloc _ _⟩
  case round =>
    obtain ⟨k, hk, rfl, rfl, hto, hr, hbw⟩ := hrel
    have Hto := Lib.hid hto
    have HR := Lib.hid hr
    have HB := Lib.hid hbw
    have hz := hr.lt
    have hpt := ptsTo_le hto hk
    by_cases hlt : k < vs.length
    · have hne : ¬ vs = [] := by intro hh; subst hh; simp at hlt
      obtain ⟨b, off, rfl, hbl, hc⟩ := (H.out.ext verbR_stab hbw).vbs (by omega)
      obtain ⟨A1, cap1, cx, cy, hp⟩ := hc k hlt
      have hl1 : vs[k].2.length ≤ 1000000000 := Hs.out _ (List.getElem_mem hlt)
      have Hok := Lib.hid (vbOk_at hlt)
      have Hsucc := Lib.hid (ptsTo_succ hlt)
      have Hno : Hid (vbOk vs k = false → pathOk vs = false) := Lib.hid (pathOk_no hlt)
      have cm : ∀ n : Nat, n < 5 → wr.cell? ⟨w.heap.size, n, none⟩ = some (.int .i64 (manyOf (n : Int))) := by
        intro n hn
        have : n = 0 ∨ n = 1 ∨ n = 2 ∨ n = 3 ∨ n = 4 := by omega
        rcases this with rfl | rfl | rfl | rfl | rfl <;> exact hr.cell_of rfl
      have Hcm := Lib.hid cm
      have HPs := Lib.hid hp
      have hbeg : (begB vs k = true ∧ (((k : Nat) : Int) == 0) = true) ∨ (∃ pk : Int, (((k : Nat) : Int) == 0) = false ∧ 1 ≤ k ∧ wr.cell? ⟨b, off + (k - 1) * 2, none⟩ = some (.int .i64 pk) ∧ (((pk == 4) = true ∧ begB vs k = true) ∨ ((pk == 4) = false ∧ begB vs k = false))) := by
        rcases Nat.eq_zero_or_pos k with h0 | h0
        · left; subst h0; exact ⟨rfl, rfl⟩
        · right
          obtain ⟨_, _, cp, _, _⟩ := hc (k - 1) (by omega)
          refine ⟨vs[k - 1].1, by simp; omega, h0, cp, ?_⟩
          rw [begB_pos h0 hlt]
          by_cases h4 : vs[k - 1].1 = 4
          · left; simp [h4]
          · right; simp [h4]
      generalize vs[k] = v at *
      obtain ⟨kd, ps⟩ := v
      dsimp only at cx cy hl1 HPs
      clear hc hr hto hp hbw cm hk
      rcases hbeg with ⟨hbg, hb0⟩ | ⟨pk, hb0, hk1', cp, ⟨h4, hbg⟩ | ⟨h4, hbg⟩⟩
      · have Hbg := Lib.hid hbg
        clear hbg
        go_wp2_with fail
        have Ea := ext_alloc wr (.cells #[.int .i64 kd, .slice A1 ps.length cap1] 128)
        have Ra : Row (wr.alloc (.cells #[.int .i64 kd, .slice A1 ps.length cap1] 128)) wr.heap.size 128 [.int .i64 kd, .slice A1 ps.length cap1] := Row.new wr 128 [.int .i64 kd, .slice A1 ps.length cap1]
        generalize wr.alloc (.cells #[.int .i64 kd, .slice A1 ps.length cap1] 128) = wa at *
        have EA := Lib.hid Ea
        have c0 := Ra.cell_of (i := 0) rfl
        have c1 := Ra.cell_of (i := 1) rfl
        clear Ea Ra
        by_cases hin : inB kd 0 4 = true
        · obtain ⟨hk0, hk1⟩ := inB_iff.1 hin
          obtain ⟨kn, rfl⟩ : ∃ kn : Nat, kd = (kn : Int) := ⟨kd.toNat, by omega⟩
          have hkn : kn < 5 := by omega
          have ca := Cls.cell EA.out (Hcm.out kn hkn)
          have hmle := manyOf_le (kn : Int)
          have i1 : (kn : Int) < 5 := by omega
          have K1 : Hid (∀ W, Calls Tryz.prog 77 #[.int .i64 (kn : Int), .int .i64 0, .int .i64 4] W fun e w' => e = .returned (.bool true) ∧ Below W.heap.size W w') := Lib.hid (fun W => by have := ext_of_same (c_in (kn : Int) 0 4 W); rwa [hin] at this)
          have Hin := Lib.hid hin
          clear hin
          by_cases hlen : ps.length = manyOf (kn : Int)
          · have hb1 : (((ps.length : Nat) : Int) != ((manyOf (kn : Int) : Nat) : Int)) = false := by simp [hlen]
            have Hlen := Lib.hid hlen
            generalize manyOf (kn : Int) = mm at *
            clear hlen
            by_cases hps : psB ps = true
            · have K2 : Hid (∀ W, Ext wa W → Calls Tryz.prog 149 #[.slice A1 ps.length cap1] W fun e w' => e = .returned (.bool true) ∧ Below W.heap.size W w') := Lib.hid (fun W hW => by have := c_pointsValid A1 cap1 ps W (HPs.out.ext ptR_stab (Ext.trans EA.out hW)) (by omega); rwa [hps] at this)
              have Hps := Lib.hid hps
              clear hps
              by_cases hk0' : kn = 0
              · have hb2 : (((kn : Nat) : Int) != 0) = false := by simp [hk0']
                have Hv : Hid (vbOk vs k = true) := Lib.hid (by rw [Hok.out, Hin.out, Hps.out]; have := Hlen.out; subst hk0'; simp [this])
                clear hk0'
                refine wp_region_calm [0,1,2,3,4,5,6,7,8,9,10,11,12,13,14,15,16,17,18,19,20,21,22,23,24,25,26,27,28] [] (by kernel_rfl) (by kernel_rfl) ?_
                iterate 2 ((first | (refine calm_yes rfl rfl (fun w' hC => (by have c0 := hC.cell c0; have c1 := hC.cell c1; go_simp; rfl)) (fun K hK => ?_); go_simp; refine hK _ ?_; clear hK K) | (refine calm_no rfl rfl (fun K hK => ?_); go_simp; refine hK _ ?_; clear hK K)))
                (first | (apply calm_call rfl rfl rfl Tryz.func77 (by kernel_rfl) rfl (by go_simp; rfl); exact (fun w' hC => K1.out w'); intro K hK; go_simp; refine hK _ ?_; clear hK K) | (refine calm_no rfl rfl (fun K hK => ?_); go_simp; refine hK _ ?_; clear hK K))
                iterate 15 ((first | (refine calm_yes rfl rfl (fun w' hC => (by have c0 := hC.cell c0; have c1 := hC.cell c1; have ca := hC.cell ca; go_simp; rfl)) (fun K hK => ?_); go_simp; refine hK _ ?_; clear hK K) | (refine calm_no rfl rfl (fun K hK => ?_); go_simp; refine hK _ ?_; clear hK K)))
                (first | (apply calm_call rfl rfl rfl Tryz.func149 (by kernel_rfl) rfl (by go_simp; rfl); exact (fun w' hC => K2.out w' (Below.trans (Below.refl _ wa).drew hC)); intro K hK; go_simp; refine hK _ ?_; clear hK K) | (refine calm_no rfl rfl (fun K hK => ?_); go_simp; refine hK _ ?_; clear hK K))
                iterate 10 ((first | (refine calm_yes rfl rfl (fun w' hC => (by have c0 := hC.cell c0; have c1 := hC.cell c1; go_simp; rfl)) (fun K hK => ?_); go_simp; refine hK _ ?_; clear hK K) | (refine calm_no rfl rfl (fun K hK => ?_); go_simp; refine hK _ ?_; clear hK K)))
                refine calm_done (fun w1 hb1 => ?_)
                have E1 := Lib.hid (Ext.trans EA.out hb1)
                have c0' := Cls.cell hb1 c0
                have c1' := Cls.cell hb1 c1
                clear hb1 c0 c1
                go_wp2
                go_roundw
                case rel => exact ⟨k + 1, by omega, by go_num, by rw [Hsucc.out]; push_cast; rfl, vbsTo_succ Hto.out Hv.out, HR.out.ext E1.out, below_ext HB.out E1.out⟩
                case measure => simp [intOf]; omega
              · have hb2 : (((kn : Nat) : Int) != 0) = true := by simp [hk0']
                clear hk0'
                have Hv : Hid (vbOk vs k = false) := Lib.hid (by
                  have e : (((kn : Nat) : Int) == 0) = false := by simpa using hb2
                  rw [Hok.out, Hbg.out, e]; simp)
                refine wp_region_calm [0,1,2,3,4,5,6,7,8,9,10,11,12,13,14,15,16,17,18,19,20,21,22,23,24,25,26,27,28] [] (by kernel_rfl) (by kernel_rfl) ?_
                iterate 2 ((first | (refine calm_yes rfl rfl (fun w' hC => (by have c0 := hC.cell c0; have c1 := hC.cell c1; go_simp; rfl)) (fun K hK => ?_); go_simp; refine hK _ ?_; clear hK K) | (refine calm_no rfl rfl (fun K hK => ?_); go_simp; refine hK _ ?_; clear hK K)))
                (first | (apply calm_call rfl rfl rfl Tryz.func77 (by kernel_rfl) rfl (by go_simp; rfl); exact (fun w' hC => K1.out w'); intro K hK; go_simp; refine hK _ ?_; clear hK K) | (refine calm_no rfl rfl (fun K hK => ?_); go_simp; refine hK _ ?_; clear hK K))
                iterate 15 ((first | (refine calm_yes rfl rfl (fun w' hC => (by have c0 := hC.cell c0; have c1 := hC.cell c1; have ca := hC.cell ca; go_simp; rfl)) (fun K hK => ?_); go_simp; refine hK _ ?_; clear hK K) | (refine calm_no rfl rfl (fun K hK => ?_); go_simp; refine hK _ ?_; clear hK K)))
                (first | (apply calm_call rfl rfl rfl Tryz.func149 (by kernel_rfl) rfl (by go_simp; rfl); exact (fun w' hC => K2.out w' (Below.trans (Below.refl _ wa).drew hC)); intro K hK; go_simp; refine hK _ ?_; clear hK K) | (refine calm_no rfl rfl (fun K hK => ?_); go_simp; refine hK _ ?_; clear hK K))
                iterate 10 ((first | (refine calm_yes rfl rfl (fun w' hC => (by have c0 := hC.cell c0; have c1 := hC.cell c1; go_simp; rfl)) (fun K hK => ?_); go_simp; refine hK _ ?_; clear hK K) | (refine calm_no rfl rfl (fun K hK => ?_); go_simp; refine hK _ ?_; clear hK K)))
                refine calm_done (fun w1 hb1 => ?_)
                have E1 := Lib.hid (Ext.trans EA.out hb1)
                have c0' := Cls.cell hb1 c0
                have c1' := Cls.cell hb1 c1
                clear hb1 c0 c1
                go_wp2
                go_ret
                exact ⟨ret_bb (Hno.out Hv.out).symm, below_ext HB.out E1.out⟩
            · simp only [Bool.not_eq_true] at hps
              have K2 : Hid (∀ W, Ext wa W → Calls Tryz.prog 149 #[.slice A1 ps.length cap1] W fun e w' => e = .returned (.bool false) ∧ Below W.heap.size W w') := Lib.hid (fun W hW => by have := c_pointsValid A1 cap1 ps W (HPs.out.ext ptR_stab (Ext.trans EA.out hW)) (by omega); rwa [hps] at this)
              have Hv : Hid (vbOk vs k = false) := Lib.hid (by rw [Hok.out, hps]; simp)
              clear hps
              refine wp_region_calm [0,1,2,3,4,5,6,7,8,9,10,11,12,13,14,15,16,17,18,19,20,21,22,23,24,25,26,27,28] [] (by kernel_rfl) (by kernel_rfl) ?_
              iterate 2 ((first | (refine calm_yes rfl rfl (fun w' hC => (by have c0 := hC.cell c0; have c1 := hC.cell c1; go_simp; rfl)) (fun K hK => ?_); go_simp; refine hK _ ?_; clear hK K) | (refine calm_no rfl rfl (fun K hK => ?_); go_simp; refine hK _ ?_; clear hK K)))
              (first | (apply calm_call rfl rfl rfl Tryz.func77 (by kernel_rfl) rfl (by go_simp; rfl); exact (fun w' hC => K1.out w'); intro K hK; go_simp; refine hK _ ?_; clear hK K) | (refine calm_no rfl rfl (fun K hK => ?_); go_simp; refine hK _ ?_; clear hK K))
              iterate 15 ((first | (refine calm_yes rfl rfl (fun w' hC => (by have c0 := hC.cell c0; have c1 := hC.cell c1; have ca := hC.cell ca; go_simp; rfl)) (fun K hK => ?_); go_simp; refine hK _ ?_; clear hK K) | (refine calm_no rfl rfl (fun K hK => ?_); go_simp; refine hK _ ?_; clear hK K)))
              (first | (apply calm_call rfl rfl rfl Tryz.func149 (by kernel_rfl) rfl (by go_simp; rfl); exact (fun w' hC => K2.out w' (Below.trans (Below.refl _ wa).drew hC)); intro K hK; go_simp; refine hK _ ?_; clear hK K) | (refine calm_no rfl rfl (fun K hK => ?_); go_simp; refine hK _ ?_; clear hK K))
              iterate 10 ((first | (refine calm_yes rfl rfl (fun w' hC => (by have c0 := hC.cell c0; have c1 := hC.cell c1; go_simp; rfl)) (fun K hK => ?_); go_simp; refine hK _ ?_; clear hK K) | (refine calm_no rfl rfl (fun K hK => ?_); go_simp; refine hK _ ?_; clear hK K)))
              refine calm_done (fun w1 hb1 => ?_)
              have E1 := Lib.hid (Ext.trans EA.out hb1)
              have c0' := Cls.cell hb1 c0
              have c1' := Cls.cell hb1 c1
              clear hb1 c0 c1
              go_wp2
              go_ret
              exact ⟨ret_bb (Hno.out Hv.out).symm, below_ext HB.out E1.out⟩
          · have hb1 : (((ps.length : Nat) : Int) != ((manyOf (kn : Int) : Nat) : Int)) = true := by simp; omega
            have Hv : Hid (vbOk vs k = false) := Lib.hid (by
              rw [Hok.out]
              have : (ps.length == manyOf (kn : Int)) = false := by simpa using hlen
              rw [this]; simp)
            have K2 : Hid (∀ W, Ext wa W → Calls Tryz.prog 149 #[.slice A1 ps.length cap1] W fun e w' => e = .returned (.bool (psB ps)) ∧ Below W.heap.size W w') := Lib.hid (fun W hW => c_pointsValid A1 cap1 ps W (HPs.out.ext ptR_stab (Ext.trans EA.out hW)) (by omega))
            generalize manyOf (kn : Int) = mm at *
            clear hlen
            refine wp_region_calm [0,1,2,3,4,5,6,7,8,9,10,11,12,13,14,15,16,17,18,19,20,21,22,23,24,25,26,27,28] [] (by kernel_rfl) (by kernel_rfl) ?_
            iterate 2 ((first | (refine calm_yes rfl rfl (fun w' hC => (by have c0 := hC.cell c0; have c1 := hC.cell c1; go_simp; rfl)) (fun K hK => ?_); go_simp; refine hK _ ?_; clear hK K) | (refine calm_no rfl rfl (fun K hK => ?_); go_simp; refine hK _ ?_; clear hK K)))
            (first | (apply calm_call rfl rfl rfl Tryz.func77 (by kernel_rfl) rfl (by go_simp; rfl); exact (fun w' hC => K1.out w'); intro K hK; go_simp; refine hK _ ?_; clear hK K) | (refine calm_no rfl rfl (fun K hK => ?_); go_simp; refine hK _ ?_; clear hK K))
            iterate 15 ((first | (refine calm_yes rfl rfl (fun w' hC => (by have c0 := hC.cell c0; have c1 := hC.cell c1; have ca := hC.cell ca; go_simp; rfl)) (fun K hK => ?_); go_simp; refine hK _ ?_; clear hK K) | (refine calm_no rfl rfl (fun K hK => ?_); go_simp; refine hK _ ?_; clear hK K)))
            (first | (apply calm_call rfl rfl rfl Tryz.func149 (by kernel_rfl) rfl (by go_simp; rfl); exact (fun w' hC => K2.out w' (Below.trans (Below.refl _ wa).drew hC)); intro K hK; go_simp; refine hK _ ?_; clear hK K) | (refine calm_no rfl rfl (fun K hK => ?_); go_simp; refine hK _ ?_; clear hK K))
            iterate 10 ((first | (refine calm_yes rfl rfl (fun w' hC => (by have c0 := hC.cell c0; have c1 := hC.cell c1; go_simp; rfl)) (fun K hK => ?_); go_simp; refine hK _ ?_; clear hK K) | (refine calm_no rfl rfl (fun K hK => ?_); go_simp; refine hK _ ?_; clear hK K)))
            refine calm_done (fun w1 hb1 => ?_)
            have E1 := Lib.hid (Ext.trans EA.out hb1)
            have c0' := Cls.cell hb1 c0
            have c1' := Cls.cell hb1 c1
            clear hb1 c0 c1
            go_wp2
            go_ret
            exact ⟨ret_bb (Hno.out Hv.out).symm, below_ext HB.out E1.out⟩
        · simp only [Bool.not_eq_true] at hin
          have K1 : Hid (∀ W, Calls Tryz.prog 77 #[.int .i64 kd, .int .i64 0, .int .i64 4] W fun e w' => e = .returned (.bool false) ∧ Below W.heap.size W w') := Lib.hid (fun W => by have := ext_of_same (c_in kd 0 4 W); rwa [hin] at this)
          have K2 : Hid (∀ W, Ext wa W → Calls Tryz.prog 149 #[.slice A1 ps.length cap1] W fun e w' => e = .returned (.bool (psB ps)) ∧ Below W.heap.size W w') := Lib.hid (fun W hW => c_pointsValid A1 cap1 ps W (HPs.out.ext ptR_stab (Ext.trans EA.out hW)) (by omega))
          have Hv : Hid (vbOk vs k = false) := Lib.hid (by rw [Hok.out, hin]; rfl)
          clear hin
          refine wp_region_calm [0,1,2,3,4,5,6,7,8,9,10,11,12,13,14,15,16,17,18,19,20,21,22,23,24,25,26,27,28] [] (by kernel_rfl) (by kernel_rfl) ?_
          iterate 2 ((first | (refine calm_yes rfl rfl (fun w' hC => (by have c0 := hC.cell c0; have c1 := hC.cell c1; go_simp; rfl)) (fun K hK => ?_); go_simp; refine hK _ ?_; clear hK K) | (refine calm_no rfl rfl (fun K hK => ?_); go_simp; refine hK _ ?_; clear hK K)))
          (first | (apply calm_call rfl rfl rfl Tryz.func77 (by kernel_rfl) rfl (by go_simp; rfl); exact (fun w' hC => K1.out w'); intro K hK; go_simp; refine hK _ ?_; clear hK K) | (refine calm_no rfl rfl (fun K hK => ?_); go_simp; refine hK _ ?_; clear hK K))
          iterate 15 ((first | (refine calm_yes rfl rfl (fun w' hC => (by have c0 := hC.cell c0; have c1 := hC.cell c1; go_simp; rfl)) (fun K hK => ?_); go_simp; refine hK _ ?_; clear hK K) | (refine calm_no rfl rfl (fun K hK => ?_); go_simp; refine hK _ ?_; clear hK K)))
          (first | (apply calm_call rfl rfl rfl Tryz.func149 (by kernel_rfl) rfl (by go_simp; rfl); exact (fun w' hC => K2.out w' (Below.trans (Below.refl _ wa).drew hC)); intro K hK; go_simp; refine hK _ ?_; clear hK K) | (refine calm_no rfl rfl (fun K hK => ?_); go_simp; refine hK _ ?_; clear hK K))
          iterate 10 ((first | (refine calm_yes rfl rfl (fun w' hC => (by have c0 := hC.cell c0; have c1 := hC.cell c1; go_simp; rfl)) (fun K hK => ?_); go_simp; refine hK _ ?_; clear hK K) | (refine calm_no rfl rfl (fun K hK => ?_); go_simp; refine hK _ ?_; clear hK K)))
          refine calm_done (fun w1 hb1 => ?_)
          have E1 := Lib.hid (Ext.trans EA.out hb1)
          have c0' := Cls.cell hb1 c0
          have c1' := Cls.cell hb1 c1
          clear hb1 c0 c1
          go_wp2
          go_ret
          exact ⟨ret_bb (Hno.out Hv.out).symm, below_ext HB.out E1.out⟩
      · have Hbg := Lib.hid hbg
        clear hbg
        go_wp2_with fail
        have Ea := ext_alloc wr (.cells #[.int .i64 kd, .slice A1 ps.length cap1] 128)
        have Ra : Row (wr.alloc (.cells #[.int .i64 kd, .slice A1 ps.length cap1] 128)) wr.heap.size 128 [.int .i64 kd, .slice A1 ps.length cap1] := Row.new wr 128 [.int .i64 kd, .slice A1 ps.length cap1]
        generalize wr.alloc (.cells #[.int .i64 kd, .slice A1 ps.length cap1] 128) = wa at *
        have EA := Lib.hid Ea
        have c0 := Ra.cell_of (i := 0) rfl
        have c1 := Ra.cell_of (i := 1) rfl
        clear Ea Ra
        by_cases hin : inB kd 0 4 = true
        · obtain ⟨hk0, hk1⟩ := inB_iff.1 hin
          obtain ⟨kn, rfl⟩ : ∃ kn : Nat, kd = (kn : Int) := ⟨kd.toNat, by omega⟩
          have hkn : kn < 5 := by omega
          have ca := Cls.cell EA.out (Hcm.out kn hkn)
          have hmle := manyOf_le (kn : Int)
          have i1 : (kn : Int) < 5 := by omega
          have K1 : Hid (∀ W, Calls Tryz.prog 77 #[.int .i64 (kn : Int), .int .i64 0, .int .i64 4] W fun e w' => e = .returned (.bool true) ∧ Below W.heap.size W w') := Lib.hid (fun W => by have := ext_of_same (c_in (kn : Int) 0 4 W); rwa [hin] at this)
          have Hin := Lib.hid hin
          clear hin
          by_cases hlen : ps.length = manyOf (kn : Int)
          · have hb1 : (((ps.length : Nat) : Int) != ((manyOf (kn : Int) : Nat) : Int)) = false := by simp [hlen]
            have Hlen := Lib.hid hlen
            generalize manyOf (kn : Int) = mm at *
            clear hlen
            by_cases hps : psB ps = true
            · have K2 : Hid (∀ W, Ext wa W → Calls Tryz.prog 149 #[.slice A1 ps.length cap1] W fun e w' => e = .returned (.bool true) ∧ Below W.heap.size W w') := Lib.hid (fun W hW => by have := c_pointsValid A1 cap1 ps W (HPs.out.ext ptR_stab (Ext.trans EA.out hW)) (by omega); rwa [hps] at this)
              have Hps := Lib.hid hps
              clear hps
              by_cases hk0' : kn = 0
              · have hb2 : (((kn : Nat) : Int) != 0) = false := by simp [hk0']
                have Hv : Hid (vbOk vs k = true) := Lib.hid (by rw [Hok.out, Hin.out, Hps.out]; have := Hlen.out; subst hk0'; simp [this])
                clear hk0'
                refine wp_region_calm [0,1,2,3,4,5,6,7,8,9,10,11,12,13,14,15,16,17,18,19,20,21,22,23,24,25,26,27,28] [] (by kernel_rfl) (by kernel_rfl) ?_
                iterate 2 ((first | (refine calm_yes rfl rfl (fun w' hC => (by have c0 := hC.cell c0; have c1 := hC.cell c1; go_simp; rfl)) (fun K hK => ?_); go_simp; refine hK _ ?_; clear hK K) | (refine calm_no rfl rfl (fun K hK => ?_); go_simp; refine hK _ ?_; clear hK K)))
                (first | (apply calm_call rfl rfl rfl Tryz.func77 (by kernel_rfl) rfl (by go_simp; rfl); exact (fun w' hC => K1.out w'); intro K hK; go_simp; refine hK _ ?_; clear hK K) | (refine calm_no rfl rfl (fun K hK => ?_); go_simp; refine hK _ ?_; clear hK K))
                iterate 15 ((first | (refine calm_yes rfl rfl (fun w' hC => (by have c0 := hC.cell c0; have c1 := hC.cell c1; have ca := hC.cell ca; go_simp; rfl)) (fun K hK => ?_); go_simp; refine hK _ ?_; clear hK K) | (refine calm_no rfl rfl (fun K hK => ?_); go_simp; refine hK _ ?_; clear hK K)))
                (first | (apply calm_call rfl rfl rfl Tryz.func149 (by kernel_rfl) rfl (by go_simp; rfl); exact (fun w' hC => K2.out w' (Below.trans (Below.refl _ wa).drew hC)); intro K hK; go_simp; refine hK _ ?_; clear hK K) | (refine calm_no rfl rfl (fun K hK => ?_); go_simp; refine hK _ ?_; clear hK K))
                iterate 10 ((first | (refine calm_yes rfl rfl (fun w' hC => (by have c0 := hC.cell c0; have c1 := hC.cell c1; go_simp; rfl)) (fun K hK => ?_); go_simp; refine hK _ ?_; clear hK K) | (refine calm_no rfl rfl (fun K hK => ?_); go_simp; refine hK _ ?_; clear hK K)))
                refine calm_done (fun w1 hb1 => ?_)
                have E1 := Lib.hid (Ext.trans EA.out hb1)
                have c0' := Cls.cell hb1 c0
                have c1' := Cls.cell hb1 c1
                clear hb1 c0 c1
                go_wp2
                go_roundw
                case rel => exact ⟨k + 1, by omega, by go_num, by rw [Hsucc.out]; push_cast; rfl, vbsTo_succ Hto.out Hv.out, HR.out.ext E1.out, below_ext HB.out E1.out⟩
                case measure => simp [intOf]; omega
              · have hb2 : (((kn : Nat) : Int) != 0) = true := by simp [hk0']
                clear hk0'
                have Hv : Hid (vbOk vs k = false) := Lib.hid (by
                  have e : (((kn : Nat) : Int) == 0) = false := by simpa using hb2
                  rw [Hok.out, Hbg.out, e]; simp)
                refine wp_region_calm [0,1,2,3,4,5,6,7,8,9,10,11,12,13,14,15,16,17,18,19,20,21,22,23,24,25,26,27,28] [] (by kernel_rfl) (by kernel_rfl) ?_
                iterate 2 ((first | (refine calm_yes rfl rfl (fun w' hC => (by have c0 := hC.cell c0; have c1 := hC.cell c1; go_simp; rfl)) (fun K hK => ?_); go_simp; refine hK _ ?_; clear hK K) | (refine calm_no rfl rfl (fun K hK => ?_); go_simp; refine hK _ ?_; clear hK K)))
                (first | (apply calm_call rfl rfl rfl Tryz.func77 (by kernel_rfl) rfl (by go_simp; rfl); exact (fun w' hC => K1.out w'); intro K hK; go_simp; refine hK _ ?_; clear hK K) | (refine calm_no rfl rfl (fun K hK => ?_); go_simp; refine hK _ ?_; clear hK K))
                iterate 15 ((first | (refine calm_yes rfl rfl (fun w' hC => (by have c0 := hC.cell c0; have c1 := hC.cell c1; have ca := hC.cell ca; go_simp; rfl)) (fun K hK => ?_); go_simp; refine hK _ ?_; clear hK K) | (refine calm_no rfl rfl (fun K hK => ?_); go_simp; refine hK _ ?_; clear hK K)))
                (first | (apply calm_call rfl rfl rfl Tryz.func149 (by kernel_rfl) rfl (by go_simp; rfl); exact (fun w' hC => K2.out w' (Below.trans (Below.refl _ wa).drew hC)); intro K hK; go_simp; refine hK _ ?_; clear hK K) | (refine calm_no rfl rfl (fun K hK => ?_); go_simp; refine hK _ ?_; clear hK K))
                iterate 10 ((first | (refine calm_yes rfl rfl (fun w' hC => (by have c0 := hC.cell c0; have c1 := hC.cell c1; go_simp; rfl)) (fun K hK => ?_); go_simp; refine hK _ ?_; clear hK K) | (refine calm_no rfl rfl (fun K hK => ?_); go_simp; refine hK _ ?_; clear hK K)))
                refine calm_done (fun w1 hb1 => ?_)
                have E1 := Lib.hid (Ext.trans EA.out hb1)
                have c0' := Cls.cell hb1 c0
                have c1' := Cls.cell hb1 c1
                clear hb1 c0 c1
                go_wp2
                go_ret
                exact ⟨ret_bb (Hno.out Hv.out).symm, below_ext HB.out E1.out⟩
            · simp only [Bool.not_eq_true] at hps
              have K2 : Hid (∀ W, Ext wa W → Calls Tryz.prog 149 #[.slice A1 ps.length cap1] W fun e w' => e = .returned (.bool false) ∧ Below W.heap.size W w') := Lib.hid (fun W hW => by have := c_pointsValid A1 cap1 ps W (HPs.out.ext ptR_stab (Ext.trans EA.out hW)) (by omega); rwa [hps] at this)
              have Hv : Hid (vbOk vs k = false) := Lib.hid (by rw [Hok.out, hps]; simp)
              clear hps
              refine wp_region_calm [0,1,2,3,4,5,6,7,8,9,10,11,12,13,14,15,16,17,18,19,20,21,22,23,24,25,26,27,28] [] (by kernel_rfl) (by kernel_rfl) ?_
              iterate 2 ((first | (refine calm_yes rfl rfl (fun w' hC => (by have c0 := hC.cell c0; have c1 := hC.cell c1; go_simp; rfl)) (fun K hK => ?_); go_simp; refine hK _ ?_; clear hK K) | (refine calm_no rfl rfl (fun K hK => ?_); go_simp; refine hK _ ?_; clear hK K)))
              (first | (apply calm_call rfl rfl rfl Tryz.func77 (by kernel_rfl) rfl (by go_simp; rfl); exact (fun w' hC => K1.out w'); intro K hK; go_simp; refine hK _ ?_; clear hK K) | (refine calm_no rfl rfl (fun K hK => ?_); go_simp; refine hK _ ?_; clear hK K))
              iterate 15 ((first | (refine calm_yes rfl rfl (fun w' hC => (by have c0 := hC.cell c0; have c1 := hC.cell c1; have ca := hC.cell ca; go_simp; rfl)) (fun K hK => ?_); go_simp; refine hK _ ?_; clear hK K) | (refine calm_no rfl rfl (fun K hK => ?_); go_simp; refine hK _ ?_; clear hK K)))
              (first | (apply calm_call rfl rfl rfl Tryz.func149 (by kernel_rfl) rfl (by go_simp; rfl); exact (fun w' hC => K2.out w' (Below.trans (Below.refl _ wa).drew hC)); intro K hK; go_simp; refine hK _ ?_; clear hK K) | (refine calm_no rfl rfl (fun K hK => ?_); go_simp; refine hK _ ?_; clear hK K))
              iterate 10 ((first | (refine calm_yes rfl rfl (fun w' hC => (by have c0 := hC.cell c0; have c1 := hC.cell c1; go_simp; rfl)) (fun K hK => ?_); go_simp; refine hK _ ?_; clear hK K) | (refine calm_no rfl rfl (fun K hK => ?_); go_simp; refine hK _ ?_; clear hK K)))
              refine calm_done (fun w1 hb1 => ?_)
              have E1 := Lib.hid (Ext.trans EA.out hb1)
              have c0' := Cls.cell hb1 c0
              have c1' := Cls.cell hb1 c1
              clear hb1 c0 c1
              go_wp2
              go_ret
              exact ⟨ret_bb (Hno.out Hv.out).symm, below_ext HB.out E1.out⟩
          · have hb1 : (((ps.length : Nat) : Int) != ((manyOf (kn : Int) : Nat) : Int)) = true := by simp; omega
            have Hv : Hid (vbOk vs k = false) := Lib.hid (by
              rw [Hok.out]
              have : (ps.length == manyOf (kn : Int)) = false := by simpa using hlen
              rw [this]; simp)
            have K2 : Hid (∀ W, Ext wa W → Calls Tryz.prog 149 #[.slice A1 ps.length cap1] W fun e w' => e = .returned (.bool (psB ps)) ∧ Below W.heap.size W w') := Lib.hid (fun W hW => c_pointsValid A1 cap1 ps W (HPs.out.ext ptR_stab (Ext.trans EA.out hW)) (by omega))
            generalize manyOf (kn : Int) = mm at *
            clear hlen
            refine wp_region_calm [0,1,2,3,4,5,6,7,8,9,10,11,12,13,14,15,16,17,18,19,20,21,22,23,24,25,26,27,28] [] (by kernel_rfl) (by kernel_rfl) ?_
            iterate 2 ((first | (refine calm_yes rfl rfl (fun w' hC => (by have c0 := hC.cell c0; have c1 := hC.cell c1; go_simp; rfl)) (fun K hK => ?_); go_simp; refine hK _ ?_; clear hK K) | (refine calm_no rfl rfl (fun K hK => ?_); go_simp; refine hK _ ?_; clear hK K)))
            (first | (apply calm_call rfl rfl rfl Tryz.func77 (by kernel_rfl) rfl (by go_simp; rfl); exact (fun w' hC => K1.out w'); intro K hK; go_simp; refine hK _ ?_; clear hK K) | (refine calm_no rfl rfl (fun K hK => ?_); go_simp; refine hK _ ?_; clear hK K))
            iterate 15 ((first | (refine calm_yes rfl rfl (fun w' hC => (by have c0 := hC.cell c0; have c1 := hC.cell c1; have ca := hC.cell ca; go_simp; rfl)) (fun K hK => ?_); go_simp; refine hK _ ?_; clear hK K) | (refine calm_no rfl rfl (fun K hK => ?_); go_simp; refine hK _ ?_; clear hK K)))
            (first | (apply calm_call rfl rfl rfl Tryz.func149 (by kernel_rfl) rfl (by go_simp; rfl); exact (fun w' hC => K2.out w' (Below.trans (Below.refl _ wa).drew hC)); intro K hK; go_simp; refine hK _ ?_; clear hK K) | (refine calm_no rfl rfl (fun K hK => ?_); go_simp; refine hK _ ?_; clear hK K))
            iterate 10 ((first | (refine calm_yes rfl rfl (fun w' hC => (by have c0 := hC.cell c0; have c1 := hC.cell c1; go_simp; rfl)) (fun K hK => ?_); go_simp; refine hK _ ?_; clear hK K) | (refine calm_no rfl rfl (fun K hK => ?_); go_simp; refine hK _ ?_; clear hK K)))
            refine calm_done (fun w1 hb1 => ?_)
            have E1 := Lib.hid (Ext.trans EA.out hb1)
            have c0' := Cls.cell hb1 c0
            have c1' := Cls.cell hb1 c1
            clear hb1 c0 c1
            go_wp2
            go_ret
            exact ⟨ret_bb (Hno.out Hv.out).symm, below_ext HB.out E1.out⟩
        · simp only [Bool.not_eq_true] at hin
          have K1 : Hid (∀ W, Calls Tryz.prog 77 #[.int .i64 kd, .int .i64 0, .int .i64 4] W fun e w' => e = .returned (.bool false) ∧ Below W.heap.size W w') := Lib.hid (fun W => by have := ext_of_same (c_in kd 0 4 W); rwa [hin] at this)
          have K2 : Hid (∀ W, Ext wa W → Calls Tryz.prog 149 #[.slice A1 ps.length cap1] W fun e w' => e = .returned (.bool (psB ps)) ∧ Below W.heap.size W w') := Lib.hid (fun W hW => c_pointsValid A1 cap1 ps W (HPs.out.ext ptR_stab (Ext.trans EA.out hW)) (by omega))
          have Hv : Hid (vbOk vs k = false) := Lib.hid (by rw [Hok.out, hin]; rfl)
          clear hin
          refine wp_region_calm [0,1,2,3,4,5,6,7,8,9,10,11,12,13,14,15,16,17,18,19,20,21,22,23,24,25,26,27,28] [] (by kernel_rfl) (by kernel_rfl) ?_
          iterate 2 ((first | (refine calm_yes rfl rfl (fun w' hC => (by have c0 := hC.cell c0; have c1 := hC.cell c1; go_simp; rfl)) (fun K hK => ?_); go_simp; refine hK _ ?_; clear hK K) | (refine calm_no rfl rfl (fun K hK => ?_); go_simp; refine hK _ ?_; clear hK K)))
          (first | (apply calm_call rfl rfl rfl Tryz.func77 (by kernel_rfl) rfl (by go_simp; rfl); exact (fun w' hC => K1.out w'); intro K hK; go_simp; refine hK _ ?_; clear hK K) | (refine calm_no rfl rfl (fun K hK => ?_); go_simp; refine hK _ ?_; clear hK K))
          iterate 15 ((first | (refine calm_yes rfl rfl (fun w' hC => (by have c0 := hC.cell c0; have c1 := hC.cell c1; go_simp; rfl)) (fun K hK => ?_); go_simp; refine hK _ ?_; clear hK K) | (refine calm_no rfl rfl (fun K hK => ?_); go_simp; refine hK _ ?_; clear hK K)))
          (first | (apply calm_call rfl rfl rfl Tryz.func149 (by kernel_rfl) rfl (by go_simp; rfl); exact (fun w' hC => K2.out w' (Below.trans (Below.refl _ wa).drew hC)); intro K hK; go_simp; refine hK _ ?_; clear hK K) | (refine calm_no rfl rfl (fun K hK => ?_); go_simp; refine hK _ ?_; clear hK K))
          iterate 10 ((first | (refine calm_yes rfl rfl (fun w' hC => (by have c0 := hC.cell c0; have c1 := hC.cell c1; go_simp; rfl)) (fun K hK => ?_); go_simp; refine hK _ ?_; clear hK K) | (refine calm_no rfl rfl (fun K hK => ?_); go_simp; refine hK _ ?_; clear hK K)))
          refine calm_done (fun w1 hb1 => ?_)
          have E1 := Lib.hid (Ext.trans EA.out hb1)
          have c0' := Cls.cell hb1 c0
          have c1' := Cls.cell hb1 c1
          clear hb1 c0 c1
          go_wp2
          go_ret
          exact ⟨ret_bb (Hno.out Hv.out).symm, below_ext HB.out E1.out⟩
      · have Hbg := Lib.hid hbg
        clear hbg
        go_wp2_with fail
        have Ea := ext_alloc wr (.cells #[.int .i64 kd, .slice A1 ps.length cap1] 128)
        have Ra : Row (wr.alloc (.cells #[.int .i64 kd, .slice A1 ps.length cap1] 128)) wr.heap.size 128 [.int .i64 kd, .slice A1 ps.length cap1] := Row.new wr 128 [.int .i64 kd, .slice A1 ps.length cap1]
        generalize wr.alloc (.cells #[.int .i64 kd, .slice A1 ps.length cap1] 128) = wa at *
        have EA := Lib.hid Ea
        have c0 := Ra.cell_of (i := 0) rfl
        have c1 := Ra.cell_of (i := 1) rfl
        clear Ea Ra
        by_cases hin : inB kd 0 4 = true
        · obtain ⟨hk0, hk1⟩ := inB_iff.1 hin
          obtain ⟨kn, rfl⟩ : ∃ kn : Nat, kd = (kn : Int) := ⟨kd.toNat, by omega⟩
          have hkn : kn < 5 := by omega
          have ca := Cls.cell EA.out (Hcm.out kn hkn)
          have hmle := manyOf_le (kn : Int)
          have i1 : (kn : Int) < 5 := by omega
          have K1 : Hid (∀ W, Calls Tryz.prog 77 #[.int .i64 (kn : Int), .int .i64 0, .int .i64 4] W fun e w' => e = .returned (.bool true) ∧ Below W.heap.size W w') := Lib.hid (fun W => by have := ext_of_same (c_in (kn : Int) 0 4 W); rwa [hin] at this)
          have Hin := Lib.hid hin
          clear hin
          by_cases hlen : ps.length = manyOf (kn : Int)
          · have hb1 : (((ps.length : Nat) : Int) != ((manyOf (kn : Int) : Nat) : Int)) = false := by simp [hlen]
            have Hlen := Lib.hid hlen
            generalize manyOf (kn : Int) = mm at *
            clear hlen
            by_cases hps : psB ps = true
            · have K2 : Hid (∀ W, Ext wa W → Calls Tryz.prog 149 #[.slice A1 ps.length cap1] W fun e w' => e = .returned (.bool true) ∧ Below W.heap.size W w') := Lib.hid (fun W hW => by have := c_pointsValid A1 cap1 ps W (HPs.out.ext ptR_stab (Ext.trans EA.out hW)) (by omega); rwa [hps] at this)
              have Hps := Lib.hid hps
              clear hps
              by_cases hk0' : kn = 0
              · have hb2 : (((kn : Nat) : Int) != 0) = false := by simp [hk0']
                have Hv : Hid (vbOk vs k = true) := Lib.hid (by rw [Hok.out, Hin.out, Hps.out]; have := Hlen.out; subst hk0'; simp [this])
                clear hk0'
                refine wp_region_calm [0,1,2,3,4,5,6,7,8,9,10,11,12,13,14,15,16,17,18,19,20,21,22,23,24,25,26,27,28] [] (by kernel_rfl) (by kernel_rfl) ?_
                iterate 2 ((first | (refine calm_yes rfl rfl (fun w' hC => (by have c0 := hC.cell c0; have c1 := hC.cell c1; go_simp; rfl)) (fun K hK => ?_); go_simp; refine hK _ ?_; clear hK K) | (refine calm_no rfl rfl (fun K hK => ?_); go_simp; refine hK _ ?_; clear hK K)))
                (first | (apply calm_call rfl rfl rfl Tryz.func77 (by kernel_rfl) rfl (by go_simp; rfl); exact (fun w' hC => K1.out w'); intro K hK; go_simp; refine hK _ ?_; clear hK K) | (refine calm_no rfl rfl (fun K hK => ?_); go_simp; refine hK _ ?_; clear hK K))
                iterate 15 ((first | (refine calm_yes rfl rfl (fun w' hC => (by have c0 := hC.cell c0; have c1 := hC.cell c1; have ca := hC.cell ca; go_simp; rfl)) (fun K hK => ?_); go_simp; refine hK _ ?_; clear hK K) | (refine calm_no rfl rfl (fun K hK => ?_); go_simp; refine hK _ ?_; clear hK K)))
                (first | (apply calm_call rfl rfl rfl Tryz.func149 (by kernel_rfl) rfl (by go_simp; rfl); exact (fun w' hC => K2.out w' (Below.trans (Below.refl _ wa).drew hC)); intro K hK; go_simp; refine hK _ ?_; clear hK K) | (refine calm_no rfl rfl (fun K hK => ?_); go_simp; refine hK _ ?_; clear hK K))
                iterate 10 ((first | (refine calm_yes rfl rfl (fun w' hC => (by have c0 := hC.cell c0; have c1 := hC.cell c1; go_simp; rfl)) (fun K hK => ?_); go_simp; refine hK _ ?_; clear hK K) | (refine calm_no rfl rfl (fun K hK => ?_); go_simp; refine hK _ ?_; clear hK K)))
                refine calm_done (fun w1 hb1 => ?_)
                have E1 := Lib.hid (Ext.trans EA.out hb1)
                have c0' := Cls.cell hb1 c0
                have c1' := Cls.cell hb1 c1
                clear hb1 c0 c1
                go_wp2
                go_roundw
                case rel => exact ⟨k + 1, by omega, by go_num, by rw [Hsucc.out]; push_cast; rfl, vbsTo_succ Hto.out Hv.out, HR.out.ext E1.out, below_ext HB.out E1.out⟩
                case measure => simp [intOf]; omega
              · have hb2 : (((kn : Nat) : Int) != 0) = true := by simp [hk0']
                clear hk0'
                have Hv : Hid (vbOk vs k = true) := Lib.hid (by
                  rw [Hok.out, Hbg.out, Hin.out, Hps.out]; have := Hlen.out; simp [this])
                refine wp_region_calm [0,1,2,3,4,5,6,7,8,9,10,11,12,13,14,15,16,17,18,19,20,21,22,23,24,25,26,27,28] [] (by kernel_rfl) (by kernel_rfl) ?_
                iterate 2 ((first | (refine calm_yes rfl rfl (fun w' hC => (by have c0 := hC.cell c0; have c1 := hC.cell c1; go_simp; rfl)) (fun K hK => ?_); go_simp; refine hK _ ?_; clear hK K) | (refine calm_no rfl rfl (fun K hK => ?_); go_simp; refine hK _ ?_; clear hK K)))
                (first | (apply calm_call rfl rfl rfl Tryz.func77 (by kernel_rfl) rfl (by go_simp; rfl); exact (fun w' hC => K1.out w'); intro K hK; go_simp; refine hK _ ?_; clear hK K) | (refine calm_no rfl rfl (fun K hK => ?_); go_simp; refine hK _ ?_; clear hK K))
                iterate 15 ((first | (refine calm_yes rfl rfl (fun w' hC => (by have c0 := hC.cell c0; have c1 := hC.cell c1; have ca := hC.cell ca; go_simp; rfl)) (fun K hK => ?_); go_simp; refine hK _ ?_; clear hK K) | (refine calm_no rfl rfl (fun K hK => ?_); go_simp; refine hK _ ?_; clear hK K)))
                (first | (apply calm_call rfl rfl rfl Tryz.func149 (by kernel_rfl) rfl (by go_simp; rfl); exact (fun w' hC => K2.out w' (Below.trans (Below.refl _ wa).drew hC)); intro K hK; go_simp; refine hK _ ?_; clear hK K) | (refine calm_no rfl rfl (fun K hK => ?_); go_simp; refine hK _ ?_; clear hK K))
                iterate 10 ((first | (refine calm_yes rfl rfl (fun w' hC => (by have c0 := hC.cell c0; have c1 := hC.cell c1; go_simp; rfl)) (fun K hK => ?_); go_simp; refine hK _ ?_; clear hK K) | (refine calm_no rfl rfl (fun K hK => ?_); go_simp; refine hK _ ?_; clear hK K)))
                refine calm_done (fun w1 hb1 => ?_)
                have E1 := Lib.hid (Ext.trans EA.out hb1)
                have c0' := Cls.cell hb1 c0
                have c1' := Cls.cell hb1 c1
                clear hb1 c0 c1
                go_wp2
                go_roundw
                case rel => exact ⟨k + 1, by omega, by go_num, by rw [Hsucc.out]; push_cast; rfl, vbsTo_succ Hto.out Hv.out, HR.out.ext E1.out, below_ext HB.out E1.out⟩
                case measure => simp [intOf]; omega
            · simp only [Bool.not_eq_true] at hps
              have K2 : Hid (∀ W, Ext wa W → Calls Tryz.prog 149 #[.slice A1 ps.length cap1] W fun e w' => e = .returned (.bool false) ∧ Below W.heap.size W w') := Lib.hid (fun W hW => by have := c_pointsValid A1 cap1 ps W (HPs.out.ext ptR_stab (Ext.trans EA.out hW)) (by omega); rwa [hps] at this)
              have Hv : Hid (vbOk vs k = false) := Lib.hid (by rw [Hok.out, hps]; simp)
              clear hps
              refine wp_region_calm [0,1,2,3,4,5,6,7,8,9,10,11,12,13,14,15,16,17,18,19,20,21,22,23,24,25,26,27,28] [] (by kernel_rfl) (by kernel_rfl) ?_
              iterate 2 ((first | (refine calm_yes rfl rfl (fun w' hC => (by have c0 := hC.cell c0; have c1 := hC.cell c1; go_simp; rfl)) (fun K hK => ?_); go_simp; refine hK _ ?_; clear hK K) | (refine calm_no rfl rfl (fun K hK => ?_); go_simp; refine hK _ ?_; clear hK K)))
              (first | (apply calm_call rfl rfl rfl Tryz.func77 (by kernel_rfl) rfl (by go_simp; rfl); exact (fun w' hC => K1.out w'); intro K hK; go_simp; refine hK _ ?_; clear hK K) | (refine calm_no rfl rfl (fun K hK => ?_); go_simp; refine hK _ ?_; clear hK K))
              iterate 15 ((first | (refine calm_yes rfl rfl (fun w' hC => (by have c0 := hC.cell c0; have c1 := hC.cell c1; have ca := hC.cell ca; go_simp; rfl)) (fun K hK => ?_); go_simp; refine hK _ ?_; clear hK K) | (refine calm_no rfl rfl (fun K hK => ?_); go_simp; refine hK _ ?_; clear hK K)))
              (first | (apply calm_call rfl rfl rfl Tryz.func149 (by kernel_rfl) rfl (by go_simp; rfl); exact (fun w' hC => K2.out w' (Below.trans (Below.refl _ wa).drew hC)); intro K hK; go_simp; refine hK _ ?_; clear hK K) | (refine calm_no rfl rfl (fun K hK => ?_); go_simp; refine hK _ ?_; clear hK K))
              iterate 10 ((first | (refine calm_yes rfl rfl (fun w' hC => (by have c0 := hC.cell c0; have c1 := hC.cell c1; go_simp; rfl)) (fun K hK => ?_); go_simp; refine hK _ ?_; clear hK K) | (refine calm_no rfl rfl (fun K hK => ?_); go_simp; refine hK _ ?_; clear hK K)))
              refine calm_done (fun w1 hb1 => ?_)
              have E1 := Lib.hid (Ext.trans EA.out hb1)
              have c0' := Cls.cell hb1 c0
              have c1' := Cls.cell hb1 c1
              clear hb1 c0 c1
              go_wp2
              go_ret
              exact ⟨ret_bb (Hno.out Hv.out).symm, below_ext HB.out E1.out⟩
          · have hb1 : (((ps.length : Nat) : Int) != ((manyOf (kn : Int) : Nat) : Int)) = true := by simp; omega
            have Hv : Hid (vbOk vs k = false) := Lib.hid (by
              rw [Hok.out]
              have : (ps.length == manyOf (kn : Int)) = false := by simpa using hlen
              rw [this]; simp)
            have K2 : Hid (∀ W, Ext wa W → Calls Tryz.prog 149 #[.slice A1 ps.length cap1] W fun e w' => e = .returned (.bool (psB ps)) ∧ Below W.heap.size W w') := Lib.hid (fun W hW => c_pointsValid A1 cap1 ps W (HPs.out.ext ptR_stab (Ext.trans EA.out hW)) (by omega))
            generalize manyOf (kn : Int) = mm at *
            clear hlen
            refine wp_region_calm [0,1,2,3,4,5,6,7,8,9,10,11,12,13,14,15,16,17,18,19,20,21,22,23,24,25,26,27,28] [] (by kernel_rfl) (by kernel_rfl) ?_
            iterate 2 ((first | (refine calm_yes rfl rfl (fun w' hC => (by have c0 := hC.cell c0; have c1 := hC.cell c1; go_simp; rfl)) (fun K hK => ?_); go_simp; refine hK _ ?_; clear hK K) | (refine calm_no rfl rfl (fun K hK => ?_); go_simp; refine hK _ ?_; clear hK K)))
            (first | (apply calm_call rfl rfl rfl Tryz.func77 (by kernel_rfl) rfl (by go_simp; rfl); exact (fun w' hC => K1.out w'); intro K hK; go_simp; refine hK _ ?_; clear hK K) | (refine calm_no rfl rfl (fun K hK => ?_); go_simp; refine hK _ ?_; clear hK K))
            iterate 15 ((first | (refine calm_yes rfl rfl (fun w' hC => (by have c0 := hC.cell c0; have c1 := hC.cell c1; have ca := hC.cell ca; go_simp; rfl)) (fun K hK => ?_); go_simp; refine hK _ ?_; clear hK K) | (refine calm_no rfl rfl (fun K hK => ?_); go_simp; refine hK _ ?_; clear hK K)))
            (first | (apply calm_call rfl rfl rfl Tryz.func149 (by kernel_rfl) rfl (by go_simp; rfl); exact (fun w' hC => K2.out w' (Below.trans (Below.refl _ wa).drew hC)); intro K hK; go_simp; refine hK _ ?_; clear hK K) | (refine calm_no rfl rfl (fun K hK => ?_); go_simp; refine hK _ ?_; clear hK K))
            iterate 10 ((first | (refine calm_yes rfl rfl (fun w' hC => (by have c0 := hC.cell c0; have c1 := hC.cell c1; go_simp; rfl)) (fun K hK => ?_); go_simp; refine hK _ ?_; clear hK K) | (refine calm_no rfl rfl (fun K hK => ?_); go_simp; refine hK _ ?_; clear hK K)))
            refine calm_done (fun w1 hb1 => ?_)
            have E1 := Lib.hid (Ext.trans EA.out hb1)
            have c0' := Cls.cell hb1 c0
            have c1' := Cls.cell hb1 c1
            clear hb1 c0 c1
            go_wp2
            go_ret
            exact ⟨ret_bb (Hno.out Hv.out).symm, below_ext HB.out E1.out⟩
        · simp only [Bool.not_eq_true] at hin
          have K1 : Hid (∀ W, Calls Tryz.prog 77 #[.int .i64 kd, .int .i64 0, .int .i64 4] W fun e w' => e = .returned (.bool false) ∧ Below W.heap.size W w') := Lib.hid (fun W => by have := ext_of_same (c_in kd 0 4 W); rwa [hin] at this)
          have K2 : Hid (∀ W, Ext wa W → Calls Tryz.prog 149 #[.slice A1 ps.length cap1] W fun e w' => e = .returned (.bool (psB ps)) ∧ Below W.heap.size W w') := Lib.hid (fun W hW => c_pointsValid A1 cap1 ps W (HPs.out.ext ptR_stab (Ext.trans EA.out hW)) (by omega))
          have Hv : Hid (vbOk vs k = false) := Lib.hid (by rw [Hok.out, hin]; rfl)
          clear hin
          refine wp_region_calm [0,1,2,3,4,5,6,7,8,9,10,11,12,13,14,15,16,17,18,19,20,21,22,23,24,25,26,27,28] [] (by kernel_rfl) (by kernel_rfl) ?_
          iterate 2 ((first | (refine calm_yes rfl rfl (fun w' hC => (by have c0 := hC.cell c0; have c1 := hC.cell c1; go_simp; rfl)) (fun K hK => ?_); go_simp; refine hK _ ?_; clear hK K) | (refine calm_no rfl rfl (fun K hK => ?_); go_simp; refine hK _ ?_; clear hK K)))
          (first | (apply calm_call rfl rfl rfl Tryz.func77 (by kernel_rfl) rfl (by go_simp; rfl); exact (fun w' hC => K1.out w'); intro K hK; go_simp; refine hK _ ?_; clear hK K) | (refine calm_no rfl rfl (fun K hK => ?_); go_simp; refine hK _ ?_; clear hK K))
          iterate 15 ((first | (refine calm_yes rfl rfl (fun w' hC => (by have c0 := hC.cell c0; have c1 := hC.cell c1; go_simp; rfl)) (fun K hK => ?_); go_simp; refine hK _ ?_; clear hK K) | (refine calm_no rfl rfl (fun K hK => ?_); go_simp; refine hK _ ?_; clear hK K)))
          (first | (apply calm_call rfl rfl rfl Tryz.func149 (by kernel_rfl) rfl (by go_simp; rfl); exact (fun w' hC => K2.out w' (Below.trans (Below.refl _ wa).drew hC)); intro K hK; go_simp; refine hK _ ?_; clear hK K) | (refine calm_no rfl rfl (fun K hK => ?_); go_simp; refine hK _ ?_; clear hK K))
          iterate 10 ((first | (refine calm_yes rfl rfl (fun w' hC => (by have c0 := hC.cell c0; have c1 := hC.cell c1; go_simp; rfl)) (fun K hK => ?_); go_simp; refine hK _ ?_; clear hK K) | (refine calm_no rfl rfl (fun K hK => ?_); go_simp; refine hK _ ?_; clear hK K)))
          refine calm_done (fun w1 hb1 => ?_)
          have E1 := Lib.hid (Ext.trans EA.out hb1)
          have c0' := Cls.cell hb1 c0
          have c1' := Cls.cell hb1 c1
          clear hb1 c0 c1
          go_wp2
          go_ret
          exact ⟨ret_bb (Hno.out Hv.out).symm, below_ext HB.out E1.out⟩
    · obtain rfl : k = vs.length := by omega
      have hall := Lib.hid (pathOk_all Hto.out)
      clear hto hbw hr hk
      by_cases h30 : vs.length ≤ 30
      · have hI : ((vs.length : Nat) : Int) ≤ 30 := by omega
        by_cases h40 : ptsTo vs vs.length ≤ 40
        · have hJ : ((ptsTo vs vs.length : Nat) : Int) ≤ 40 := by omega
          go_wp2
          go_ret
          exact ⟨ret_bb (by rw [hall.out]; simp [h30, h40]), HB.out⟩
        · have hJ : ¬ ((ptsTo vs vs.length : Nat) : Int) ≤ 40 := by omega
          go_wp2
          go_ret
          exact ⟨ret_bb (by rw [hall.out]; simp [h40]), HB.out⟩
      · have hI : ¬ ((vs.length : Nat) : Int) ≤ 30 := by omega
        go_wp2
        go_ret
        exact ⟨ret_bb (by rw [hall.out]; simp [h30]), HB.out⟩
end Go.Proofs.YtagmnbphbakikaaGreat
