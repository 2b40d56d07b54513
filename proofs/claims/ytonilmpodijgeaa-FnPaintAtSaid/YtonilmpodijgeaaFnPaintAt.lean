/- The color of a paint at a pixel, whatever the bytes that the paint is drawn from. -/
import Derived.Test.YtonilmpodijgeaaGenQ
import Derived.Test.YtonilmpodijgeaaStopC2
import Derived.Test.YtonilmpodijgeaaOpen
import Derived.Test.YtonilmpodijgeaaStep
namespace Go.Proofs.Ytonilmpodijgeaa.fnPaintAt
open Go Go.RowKit Go.ChangeShapes Go.WideShapes Go.ChangeAt Go.Deep Reg
attribute [local go_sem] calmAt calmUpon

theorem own : ownKnob Try.prog.godebug = none := by kernel_rfl
theorem laidOut : laidOutB Try.prog = true := by kernel_rfl

set_option maxRecDepth 100000 in
set_option maxHeartbeats 8000000 in
theorem walk (A : Option Addr) (cap : Nat) (bs : List Int) (w : World) (h : In byteR 1 w A bs) (hlc : bs.length ≤ cap) (hcm : cap ≤ maxLen) :
    Calls Try.prog 14 #[.slice A bs.length cap] w fun e w' => e = .returned (.bool true) ∧ Below w.heap.size w w' := by
  unfold maxLen at hcm
  by_cases hn : bs.length ≤ 1048576
  · have hnI : ¬ (1048576 : Int) < (bs.length : Int) := by omega
    go_enter Try.func14, Try.ntmps14
    go_wp2_with fail
    refine (c_DrawPaintAt A cap bs w h hlc (by omega)).mono ?_
    rintro e w1 ⟨f, t, A1, cap1, ss, c, r, rfl, ⟨hf, ht⟩, hl, hc, hr, ho1, hb⟩
    have B := Lib.hid hb
    have hcap : ss.length ≤ cap1 := by rcases ho1.2 with ⟨hv, h0⟩ | ⟨g, cap', cur, hv, _, _, hle, _⟩ <;> (injection hv with _ _ hcc; omega)
    have S := Lib.hid (own_in (enc := stC) (R := stR) stC_len (by decide) ho1 (fun _ => rfl))
    clear ho1 hb h hn
    obtain ⟨M, hM⟩ : ∃ M, paR f t ss c r = M := ⟨_, rfl⟩
    have HM := Lib.hid hM
    have Hf : Hid (vpB f = true) := Lib.hid hf
    have Ht : Hid (vpB t = true) := Lib.hid ht
    obtain ⟨d, hd⟩ : ∃ d, stB ss = d := ⟨_, rfl⟩
    have K : Hid (∀ W, Sts W A1 ss → Calls Try.prog 43 #[paV f t A1 ss.length cap1, .int .i64 c, .int .i64 r] W fun e w' => e = .returned (bx4V M) ∧ Below W.heap.size W w') := Lib.hid (fun W hW => by rw [← HM.out]; exact c_sPaintAt f t A1 cap1 ss c r W hW hcap (by omega))
    have KV : Hid (∀ W, Sts W A1 ss → Calls Try.prog 44 #[.slice A1 ss.length cap1] W fun e w' => e = .returned (.bool d) ∧ Below W.heap.size W w') := Lib.hid (fun W hW => by rw [← hd]; exact c_iValidStops A1 cap1 ss W hW (by omega))
    have Hd := Lib.hid hd
    clear hM hf ht hd
    go_wp2_with fail
    first | refine gen_calls ?_ | refine gen_code ?_ | refine gen_list ?_
    intro w2 hW
    obtain ⟨hb, hP⟩ := new1 hW
    clear hW
    replace B := Lib.hid (Ext.trans B.out hb)
    replace S := Lib.hid (S.out.ext stR_stab hb)
    clear hb
    have P := Lib.hid hP
    have lP := P.out.lt
    clear hP
    go_wp2_with fail
    refine (c_iPaintAt f t A1 cap1 ss c r _ S.out hcap (by omega)).mono ?_
    rw [HM.out]
    rintro e w3 ⟨rfl, hb⟩
    replace B := Lib.hid (Ext.trans B.out hb)
    replace S := Lib.hid (S.out.ext stR_stab hb)
    replace P := Lib.hid (P.out.ext hb)
    have lP := P.out.lt
    clear hb
    go_wp2_with fail
    first | refine gen_calls ?_ | refine gen_code ?_ | refine gen_list ?_
    intro w4 hW
    obtain ⟨hb, hC⟩ := new1 hW
    clear hW
    replace B := Lib.hid (Ext.trans B.out hb)
    replace S := Lib.hid (S.out.ext stR_stab hb)
    replace P := Lib.hid (P.out.ext hb)
    have lP := P.out.lt
    clear hb
    have C := Lib.hid hC
    have lC := C.out.lt
    clear hC
    have hcase : (d = false) ∨ (d = true ∧ c < 0) ∨ (d = true ∧ ¬ c < 0 ∧ 12 ≤ c) ∨ (d = true ∧ ¬ c < 0 ∧ ¬ 12 ≤ c ∧ r < 0) ∨ (d = true ∧ ¬ c < 0 ∧ ¬ 12 ≤ c ∧ ¬ r < 0 ∧ 12 ≤ r) ∨ (d = true ∧ ¬ c < 0 ∧ ¬ 12 ≤ c ∧ ¬ r < 0 ∧ ¬ 12 ≤ r) := by cases d <;> simp <;> omega
    rcases hcase with rfl | ⟨rfl, x1⟩ | ⟨rfl, x1, x2⟩ | ⟨rfl, x1, x2, x3⟩ | ⟨rfl, x1, x2, x3, x4⟩ | ⟨rfl, x1, x2, x3, x4⟩
    iterate 5
      focus
        have c0 := P.out.cell_of (i := 0) rfl
        have c1 := P.out.cell_of (i := 1) rfl
        have c2 := P.out.cell_of (i := 2) rfl
        have c3 := P.out.cell_of (i := 3) rfl
        have c4 := P.out.cell_of (i := 4) rfl
        have m0 := C.out.cell_of (i := 0) rfl
        have m1 := C.out.cell_of (i := 1) rfl
        have m2 := C.out.cell_of (i := 2) rfl
        have m3 := C.out.cell_of (i := 3) rfl
        refine wp_region_calm [0,1,2,3,4,5,6,7,8,9,10,11,12,13,14,15,16,17,18,19,20,21,22,23,24,25,26,27] [] (by kernel_rfl) (by kernel_rfl) ?_
        (first | (refine calm_yes rfl rfl (fun w' hC => (by have c0 := hC.cell c0; have c1 := hC.cell c1; have c2 := hC.cell c2; have c3 := hC.cell c3; have c4 := hC.cell c4; have m0 := hC.cell m0; have m1 := hC.cell m1; have m2 := hC.cell m2; have m3 := hC.cell m3; go_simp; rfl)) (fun K hK => ?_); go_simp; refine hK _ ?_; clear hK K) | (refine calm_no rfl rfl (fun K hK => ?_); go_simp; refine hK _ ?_; clear hK K))
        (first | (refine calm_yes rfl rfl (fun w' hC => (by have c0 := hC.cell c0; have c1 := hC.cell c1; have c2 := hC.cell c2; have c3 := hC.cell c3; have c4 := hC.cell c4; have m0 := hC.cell m0; have m1 := hC.cell m1; have m2 := hC.cell m2; have m3 := hC.cell m3; go_simp; rfl)) (fun K hK => ?_); go_simp; refine hK _ ?_; clear hK K) | (refine calm_no rfl rfl (fun K hK => ?_); go_simp; refine hK _ ?_; clear hK K))
        (first | (refine calm_yes rfl rfl (fun w' hC => (by have c0 := hC.cell c0; have c1 := hC.cell c1; have c2 := hC.cell c2; have c3 := hC.cell c3; have c4 := hC.cell c4; have m0 := hC.cell m0; have m1 := hC.cell m1; have m2 := hC.cell m2; have m3 := hC.cell m3; go_simp; rfl)) (fun K hK => ?_); go_simp; refine hK _ ?_; clear hK K) | (refine calm_no rfl rfl (fun K hK => ?_); go_simp; refine hK _ ?_; clear hK K))
        (first | (refine calm_yes rfl rfl (fun w' hC => (by have c0 := hC.cell c0; have c1 := hC.cell c1; have c2 := hC.cell c2; have c3 := hC.cell c3; have c4 := hC.cell c4; have m0 := hC.cell m0; have m1 := hC.cell m1; have m2 := hC.cell m2; have m3 := hC.cell m3; go_simp; rfl)) (fun K hK => ?_); go_simp; refine hK _ ?_; clear hK K) | (refine calm_no rfl rfl (fun K hK => ?_); go_simp; refine hK _ ?_; clear hK K))
        (apply calm_call rfl rfl rfl Try.func43 (by kernel_rfl) rfl (by go_simp; rfl); exact (fun w' hC => K.out w' (S.out.ext stR_stab (ext_cls hC))); intro K hK; go_simp; refine hK _ ?_; clear hK K)
        (first | (refine calm_yes rfl rfl (fun w' hC => (by have c0 := hC.cell c0; have c1 := hC.cell c1; have c2 := hC.cell c2; have c3 := hC.cell c3; have c4 := hC.cell c4; have m0 := hC.cell m0; have m1 := hC.cell m1; have m2 := hC.cell m2; have m3 := hC.cell m3; go_simp; rfl)) (fun K hK => ?_); go_simp; refine hK _ ?_; clear hK K) | (refine calm_no rfl rfl (fun K hK => ?_); go_simp; refine hK _ ?_; clear hK K))
        (first | (refine calm_yes rfl rfl (fun w' hC => (by have c0 := hC.cell c0; have c1 := hC.cell c1; have c2 := hC.cell c2; have c3 := hC.cell c3; have c4 := hC.cell c4; have m0 := hC.cell m0; have m1 := hC.cell m1; have m2 := hC.cell m2; have m3 := hC.cell m3; go_simp; rfl)) (fun K hK => ?_); go_simp; refine hK _ ?_; clear hK K) | (refine calm_no rfl rfl (fun K hK => ?_); go_simp; refine hK _ ?_; clear hK K))
        (first | (refine calm_yes rfl rfl (fun w' hC => (by have c0 := hC.cell c0; have c1 := hC.cell c1; have c2 := hC.cell c2; have c3 := hC.cell c3; have c4 := hC.cell c4; have m0 := hC.cell m0; have m1 := hC.cell m1; have m2 := hC.cell m2; have m3 := hC.cell m3; go_simp; rfl)) (fun K hK => ?_); go_simp; refine hK _ ?_; clear hK K) | (refine calm_no rfl rfl (fun K hK => ?_); go_simp; refine hK _ ?_; clear hK K))
        (first | (refine calm_yes rfl rfl (fun w' hC => (by have c0 := hC.cell c0; have c1 := hC.cell c1; have c2 := hC.cell c2; have c3 := hC.cell c3; have c4 := hC.cell c4; have m0 := hC.cell m0; have m1 := hC.cell m1; have m2 := hC.cell m2; have m3 := hC.cell m3; go_simp; rfl)) (fun K hK => ?_); go_simp; refine hK _ ?_; clear hK K) | (refine calm_no rfl rfl (fun K hK => ?_); go_simp; refine hK _ ?_; clear hK K))
        (first | (apply calm_call rfl rfl rfl Try.func44 (by kernel_rfl) rfl (by go_simp; rfl); exact (fun w' hC => KV.out w' (S.out.ext stR_stab (ext_cls hC))); intro K hK; go_simp; refine hK _ ?_; clear hK K) | (refine calm_no rfl rfl (fun K hK => ?_); go_simp; refine hK _ ?_; clear hK K))
        (first | (refine calm_yes rfl rfl (fun w' hC => (by have c0 := hC.cell c0; have c1 := hC.cell c1; have c2 := hC.cell c2; have c3 := hC.cell c3; have c4 := hC.cell c4; have m0 := hC.cell m0; have m1 := hC.cell m1; have m2 := hC.cell m2; have m3 := hC.cell m3; go_simp; rfl)) (fun K hK => ?_); go_simp; refine hK _ ?_; clear hK K) | (refine calm_no rfl rfl (fun K hK => ?_); go_simp; refine hK _ ?_; clear hK K))
        (first | (refine calm_yes rfl rfl (fun w' hC => (by have c0 := hC.cell c0; have c1 := hC.cell c1; have c2 := hC.cell c2; have c3 := hC.cell c3; have c4 := hC.cell c4; have m0 := hC.cell m0; have m1 := hC.cell m1; have m2 := hC.cell m2; have m3 := hC.cell m3; go_simp; rfl)) (fun K hK => ?_); go_simp; refine hK _ ?_; clear hK K) | (refine calm_no rfl rfl (fun K hK => ?_); go_simp; refine hK _ ?_; clear hK K))
        (first | (refine calm_yes rfl rfl (fun w' hC => (by have c0 := hC.cell c0; have c1 := hC.cell c1; have c2 := hC.cell c2; have c3 := hC.cell c3; have c4 := hC.cell c4; have m0 := hC.cell m0; have m1 := hC.cell m1; have m2 := hC.cell m2; have m3 := hC.cell m3; go_simp; rfl)) (fun K hK => ?_); go_simp; refine hK _ ?_; clear hK K) | (refine calm_no rfl rfl (fun K hK => ?_); go_simp; refine hK _ ?_; clear hK K))
        (first | (refine calm_yes rfl rfl (fun w' hC => (by have c0 := hC.cell c0; have c1 := hC.cell c1; have c2 := hC.cell c2; have c3 := hC.cell c3; have c4 := hC.cell c4; have m0 := hC.cell m0; have m1 := hC.cell m1; have m2 := hC.cell m2; have m3 := hC.cell m3; go_simp; rfl)) (fun K hK => ?_); go_simp; refine hK _ ?_; clear hK K) | (refine calm_no rfl rfl (fun K hK => ?_); go_simp; refine hK _ ?_; clear hK K))
        (first | (refine calm_yes rfl rfl (fun w' hC => (by have c0 := hC.cell c0; have c1 := hC.cell c1; have c2 := hC.cell c2; have c3 := hC.cell c3; have c4 := hC.cell c4; have m0 := hC.cell m0; have m1 := hC.cell m1; have m2 := hC.cell m2; have m3 := hC.cell m3; go_simp; rfl)) (fun K hK => ?_); go_simp; refine hK _ ?_; clear hK K) | (refine calm_no rfl rfl (fun K hK => ?_); go_simp; refine hK _ ?_; clear hK K))
        (first | (refine calm_yes rfl rfl (fun w' hC => (by have c0 := hC.cell c0; have c1 := hC.cell c1; have c2 := hC.cell c2; have c3 := hC.cell c3; have c4 := hC.cell c4; have m0 := hC.cell m0; have m1 := hC.cell m1; have m2 := hC.cell m2; have m3 := hC.cell m3; go_simp; rfl)) (fun K hK => ?_); go_simp; refine hK _ ?_; clear hK K) | (refine calm_no rfl rfl (fun K hK => ?_); go_simp; refine hK _ ?_; clear hK K))
        (first | (refine calm_yes rfl rfl (fun w' hC => (by have c0 := hC.cell c0; have c1 := hC.cell c1; have c2 := hC.cell c2; have c3 := hC.cell c3; have c4 := hC.cell c4; have m0 := hC.cell m0; have m1 := hC.cell m1; have m2 := hC.cell m2; have m3 := hC.cell m3; go_simp; rfl)) (fun K hK => ?_); go_simp; refine hK _ ?_; clear hK K) | (refine calm_no rfl rfl (fun K hK => ?_); go_simp; refine hK _ ?_; clear hK K))
        (first | (refine calm_yes rfl rfl (fun w' hC => (by have c0 := hC.cell c0; have c1 := hC.cell c1; have c2 := hC.cell c2; have c3 := hC.cell c3; have c4 := hC.cell c4; have m0 := hC.cell m0; have m1 := hC.cell m1; have m2 := hC.cell m2; have m3 := hC.cell m3; go_simp; rfl)) (fun K hK => ?_); go_simp; refine hK _ ?_; clear hK K) | (refine calm_no rfl rfl (fun K hK => ?_); go_simp; refine hK _ ?_; clear hK K))
        (first | (refine calm_yes rfl rfl (fun w' hC => (by have c0 := hC.cell c0; have c1 := hC.cell c1; have c2 := hC.cell c2; have c3 := hC.cell c3; have c4 := hC.cell c4; have m0 := hC.cell m0; have m1 := hC.cell m1; have m2 := hC.cell m2; have m3 := hC.cell m3; go_simp; rfl)) (fun K hK => ?_); go_simp; refine hK _ ?_; clear hK K) | (refine calm_no rfl rfl (fun K hK => ?_); go_simp; refine hK _ ?_; clear hK K))
        (first | (refine calm_yes rfl rfl (fun w' hC => (by have c0 := hC.cell c0; have c1 := hC.cell c1; have c2 := hC.cell c2; have c3 := hC.cell c3; have c4 := hC.cell c4; have m0 := hC.cell m0; have m1 := hC.cell m1; have m2 := hC.cell m2; have m3 := hC.cell m3; go_simp; rfl)) (fun K hK => ?_); go_simp; refine hK _ ?_; clear hK K) | (refine calm_no rfl rfl (fun K hK => ?_); go_simp; refine hK _ ?_; clear hK K))
        (first | (refine calm_yes rfl rfl (fun w' hC => (by have c0 := hC.cell c0; have c1 := hC.cell c1; have c2 := hC.cell c2; have c3 := hC.cell c3; have c4 := hC.cell c4; have m0 := hC.cell m0; have m1 := hC.cell m1; have m2 := hC.cell m2; have m3 := hC.cell m3; go_simp; rfl)) (fun K hK => ?_); go_simp; refine hK _ ?_; clear hK K) | (refine calm_no rfl rfl (fun K hK => ?_); go_simp; refine hK _ ?_; clear hK K))
        (first | (refine calm_yes rfl rfl (fun w' hC => (by have c0 := hC.cell c0; have c1 := hC.cell c1; have c2 := hC.cell c2; have c3 := hC.cell c3; have c4 := hC.cell c4; have m0 := hC.cell m0; have m1 := hC.cell m1; have m2 := hC.cell m2; have m3 := hC.cell m3; go_simp; rfl)) (fun K hK => ?_); go_simp; refine hK _ ?_; clear hK K) | (refine calm_no rfl rfl (fun K hK => ?_); go_simp; refine hK _ ?_; clear hK K))
        (first | (refine calm_yes rfl rfl (fun w' hC => (by have c0 := hC.cell c0; have c1 := hC.cell c1; have c2 := hC.cell c2; have c3 := hC.cell c3; have c4 := hC.cell c4; have m0 := hC.cell m0; have m1 := hC.cell m1; have m2 := hC.cell m2; have m3 := hC.cell m3; go_simp; rfl)) (fun K hK => ?_); go_simp; refine hK _ ?_; clear hK K) | (refine calm_no rfl rfl (fun K hK => ?_); go_simp; refine hK _ ?_; clear hK K))
        (first | (refine calm_yes rfl rfl (fun w' hC => (by have c0 := hC.cell c0; have c1 := hC.cell c1; have c2 := hC.cell c2; have c3 := hC.cell c3; have c4 := hC.cell c4; have m0 := hC.cell m0; have m1 := hC.cell m1; have m2 := hC.cell m2; have m3 := hC.cell m3; go_simp; rfl)) (fun K hK => ?_); go_simp; refine hK _ ?_; clear hK K) | (refine calm_no rfl rfl (fun K hK => ?_); go_simp; refine hK _ ?_; clear hK K))
        (first | (refine calm_yes rfl rfl (fun w' hC => (by have c0 := hC.cell c0; have c1 := hC.cell c1; have c2 := hC.cell c2; have c3 := hC.cell c3; have c4 := hC.cell c4; have m0 := hC.cell m0; have m1 := hC.cell m1; have m2 := hC.cell m2; have m3 := hC.cell m3; go_simp; rfl)) (fun K hK => ?_); go_simp; refine hK _ ?_; clear hK K) | (refine calm_no rfl rfl (fun K hK => ?_); go_simp; refine hK _ ?_; clear hK K))
        (first | (refine calm_yes rfl rfl (fun w' hC => (by have c0 := hC.cell c0; have c1 := hC.cell c1; have c2 := hC.cell c2; have c3 := hC.cell c3; have c4 := hC.cell c4; have m0 := hC.cell m0; have m1 := hC.cell m1; have m2 := hC.cell m2; have m3 := hC.cell m3; go_simp; rfl)) (fun K hK => ?_); go_simp; refine hK _ ?_; clear hK K) | (refine calm_no rfl rfl (fun K hK => ?_); go_simp; refine hK _ ?_; clear hK K))
        (first | (refine calm_yes rfl rfl (fun w' hC => (by have c0 := hC.cell c0; have c1 := hC.cell c1; have c2 := hC.cell c2; have c3 := hC.cell c3; have c4 := hC.cell c4; have m0 := hC.cell m0; have m1 := hC.cell m1; have m2 := hC.cell m2; have m3 := hC.cell m3; go_simp; rfl)) (fun K hK => ?_); go_simp; refine hK _ ?_; clear hK K) | (refine calm_no rfl rfl (fun K hK => ?_); go_simp; refine hK _ ?_; clear hK K))
        (first | (refine calm_yes rfl rfl (fun w' hC => (by have c0 := hC.cell c0; have c1 := hC.cell c1; have c2 := hC.cell c2; have c3 := hC.cell c3; have c4 := hC.cell c4; have m0 := hC.cell m0; have m1 := hC.cell m1; have m2 := hC.cell m2; have m3 := hC.cell m3; go_simp; rfl)) (fun K hK => ?_); go_simp; refine hK _ ?_; clear hK K) | (refine calm_no rfl rfl (fun K hK => ?_); go_simp; refine hK _ ?_; clear hK K))
        refine calm_done (fun w5 hb => ?_)
        clear c0 c1 c2 c3 c4 m0 m1 m2 m3
        replace B := Lib.hid (Ext.trans B.out hb)
        replace S := Lib.hid (S.out.ext stR_stab hb)
        replace P := Lib.hid (P.out.ext hb)
        have lP := P.out.lt
        replace C := Lib.hid (C.out.ext hb)
        have lC := C.out.lt
        clear hb
        have c0 := P.out.cell_of (i := 0) rfl
        have c1 := P.out.cell_of (i := 1) rfl
        have c2 := P.out.cell_of (i := 2) rfl
        have c3 := P.out.cell_of (i := 3) rfl
        have c4 := P.out.cell_of (i := 4) rfl
        have m0 := C.out.cell_of (i := 0) rfl
        have m1 := C.out.cell_of (i := 1) rfl
        have m2 := C.out.cell_of (i := 2) rfl
        have m3 := C.out.cell_of (i := 3) rfl
        go_wp2_with fail
        refine wp_region_calm [0,1,2,3,4,5,6] [] (by kernel_rfl) (by kernel_rfl) ?_
        (refine calm_yes rfl rfl (fun w' hC => (by have c0 := hC.cell c0; have c1 := hC.cell c1; have c2 := hC.cell c2; have c3 := hC.cell c3; have c4 := hC.cell c4; have m0 := hC.cell m0; have m1 := hC.cell m1; have m2 := hC.cell m2; have m3 := hC.cell m3; go_simp; rfl)) (fun K hK => ?_); go_simp; refine hK _ ?_; clear hK K)
        (refine calm_yes rfl rfl (fun w' hC => (by have c0 := hC.cell c0; have c1 := hC.cell c1; have c2 := hC.cell c2; have c3 := hC.cell c3; have c4 := hC.cell c4; have m0 := hC.cell m0; have m1 := hC.cell m1; have m2 := hC.cell m2; have m3 := hC.cell m3; go_simp; rfl)) (fun K hK => ?_); go_simp; refine hK _ ?_; clear hK K)
        (refine calm_yes rfl rfl (fun w' hC => (by have c0 := hC.cell c0; have c1 := hC.cell c1; have c2 := hC.cell c2; have c3 := hC.cell c3; have c4 := hC.cell c4; have m0 := hC.cell m0; have m1 := hC.cell m1; have m2 := hC.cell m2; have m3 := hC.cell m3; go_simp; rfl)) (fun K hK => ?_); go_simp; refine hK _ ?_; clear hK K)
        (refine calm_yes rfl rfl (fun w' hC => (by have c0 := hC.cell c0; have c1 := hC.cell c1; have c2 := hC.cell c2; have c3 := hC.cell c3; have c4 := hC.cell c4; have m0 := hC.cell m0; have m1 := hC.cell m1; have m2 := hC.cell m2; have m3 := hC.cell m3; go_simp; rfl)) (fun K hK => ?_); go_simp; refine hK _ ?_; clear hK K)
        (apply calm_call rfl rfl rfl Try.func43 (by kernel_rfl) rfl (by go_simp; rfl); exact (fun w' hC => K.out w' (S.out.ext stR_stab (ext_cls hC))); intro K hK; go_simp; refine hK _ ?_; clear hK K)
        (refine calm_yes rfl rfl (fun w' hC => (by have c0 := hC.cell c0; have c1 := hC.cell c1; have c2 := hC.cell c2; have c3 := hC.cell c3; have c4 := hC.cell c4; have m0 := hC.cell m0; have m1 := hC.cell m1; have m2 := hC.cell m2; have m3 := hC.cell m3; go_simp; rfl)) (fun K hK => ?_); go_simp; refine hK _ ?_; clear hK K)
        (refine calm_yes rfl rfl (fun w' hC => (by have c0 := hC.cell c0; have c1 := hC.cell c1; have c2 := hC.cell c2; have c3 := hC.cell c3; have c4 := hC.cell c4; have m0 := hC.cell m0; have m1 := hC.cell m1; have m2 := hC.cell m2; have m3 := hC.cell m3; go_simp; rfl)) (fun K hK => ?_); go_simp; refine hK _ ?_; clear hK K)
        refine calm_done (fun w6 hb => ?_)
        clear c0 c1 c2 c3 c4 m0 m1 m2 m3
        replace B := Lib.hid (Ext.trans B.out hb)
        replace S := Lib.hid (S.out.ext stR_stab hb)
        replace P := Lib.hid (P.out.ext hb)
        have lP := P.out.lt
        replace C := Lib.hid (C.out.ext hb)
        have lC := C.out.lt
        clear hb
        have c0 := P.out.cell_of (i := 0) rfl
        have c1 := P.out.cell_of (i := 1) rfl
        have c2 := P.out.cell_of (i := 2) rfl
        have c3 := P.out.cell_of (i := 3) rfl
        have c4 := P.out.cell_of (i := 4) rfl
        have m0 := C.out.cell_of (i := 0) rfl
        have m1 := C.out.cell_of (i := 1) rfl
        have m2 := C.out.cell_of (i := 2) rfl
        have m3 := C.out.cell_of (i := 3) rfl
        go_wp2
        go_ret
        exact ⟨rfl, B.out⟩
    have c0 := P.out.cell_of (i := 0) rfl
    have c1 := P.out.cell_of (i := 1) rfl
    have c2 := P.out.cell_of (i := 2) rfl
    have c3 := P.out.cell_of (i := 3) rfl
    have c4 := P.out.cell_of (i := 4) rfl
    have m0 := C.out.cell_of (i := 0) rfl
    have m1 := C.out.cell_of (i := 1) rfl
    have m2 := C.out.cell_of (i := 2) rfl
    have m3 := C.out.cell_of (i := 3) rfl
    have Hfin : Hid (stopR ss (alongL f t (16 * c + 8, 16 * r + 8)) = M) := Lib.hid (by
      rw [← HM.out]
      have h1 : inB c 0 11 = true := inB_iff.2 (by omega)
      have h2 : inB r 0 11 = true := inB_iff.2 (by omega)
      unfold stopR paR paOk paB paintL
      rw [Hd.out, Hf.out, Ht.out, h1, h2]; rfl)
    refine wp_region_calm [0,1,2,3,4,5,6,7,8,9,10,11,12,13,14,15,16,17,18,19,20,21,22,23,24,25,26,27] [] (by kernel_rfl) (by kernel_rfl) ?_
    (first | (refine calm_yes rfl rfl (fun w' hC => (by have c0 := hC.cell c0; have c1 := hC.cell c1; have c2 := hC.cell c2; have c3 := hC.cell c3; have c4 := hC.cell c4; have m0 := hC.cell m0; have m1 := hC.cell m1; have m2 := hC.cell m2; have m3 := hC.cell m3; go_simp; rfl)) (fun K hK => ?_); go_simp; refine hK _ ?_; clear hK K) | (refine calm_no rfl rfl (fun K hK => ?_); go_simp; refine hK _ ?_; clear hK K))
    (first | (refine calm_yes rfl rfl (fun w' hC => (by have c0 := hC.cell c0; have c1 := hC.cell c1; have c2 := hC.cell c2; have c3 := hC.cell c3; have c4 := hC.cell c4; have m0 := hC.cell m0; have m1 := hC.cell m1; have m2 := hC.cell m2; have m3 := hC.cell m3; go_simp; rfl)) (fun K hK => ?_); go_simp; refine hK _ ?_; clear hK K) | (refine calm_no rfl rfl (fun K hK => ?_); go_simp; refine hK _ ?_; clear hK K))
    (first | (refine calm_yes rfl rfl (fun w' hC => (by have c0 := hC.cell c0; have c1 := hC.cell c1; have c2 := hC.cell c2; have c3 := hC.cell c3; have c4 := hC.cell c4; have m0 := hC.cell m0; have m1 := hC.cell m1; have m2 := hC.cell m2; have m3 := hC.cell m3; go_simp; rfl)) (fun K hK => ?_); go_simp; refine hK _ ?_; clear hK K) | (refine calm_no rfl rfl (fun K hK => ?_); go_simp; refine hK _ ?_; clear hK K))
    (first | (refine calm_yes rfl rfl (fun w' hC => (by have c0 := hC.cell c0; have c1 := hC.cell c1; have c2 := hC.cell c2; have c3 := hC.cell c3; have c4 := hC.cell c4; have m0 := hC.cell m0; have m1 := hC.cell m1; have m2 := hC.cell m2; have m3 := hC.cell m3; go_simp; rfl)) (fun K hK => ?_); go_simp; refine hK _ ?_; clear hK K) | (refine calm_no rfl rfl (fun K hK => ?_); go_simp; refine hK _ ?_; clear hK K))
    (apply calm_call rfl rfl rfl Try.func43 (by kernel_rfl) rfl (by go_simp; rfl); exact (fun w' hC => K.out w' (S.out.ext stR_stab (ext_cls hC))); intro K hK; go_simp; refine hK _ ?_; clear hK K)
    (first | (refine calm_yes rfl rfl (fun w' hC => (by have c0 := hC.cell c0; have c1 := hC.cell c1; have c2 := hC.cell c2; have c3 := hC.cell c3; have c4 := hC.cell c4; have m0 := hC.cell m0; have m1 := hC.cell m1; have m2 := hC.cell m2; have m3 := hC.cell m3; go_simp; rfl)) (fun K hK => ?_); go_simp; refine hK _ ?_; clear hK K) | (refine calm_no rfl rfl (fun K hK => ?_); go_simp; refine hK _ ?_; clear hK K))
    (first | (refine calm_yes rfl rfl (fun w' hC => (by have c0 := hC.cell c0; have c1 := hC.cell c1; have c2 := hC.cell c2; have c3 := hC.cell c3; have c4 := hC.cell c4; have m0 := hC.cell m0; have m1 := hC.cell m1; have m2 := hC.cell m2; have m3 := hC.cell m3; go_simp; rfl)) (fun K hK => ?_); go_simp; refine hK _ ?_; clear hK K) | (refine calm_no rfl rfl (fun K hK => ?_); go_simp; refine hK _ ?_; clear hK K))
    (first | (refine calm_yes rfl rfl (fun w' hC => (by have c0 := hC.cell c0; have c1 := hC.cell c1; have c2 := hC.cell c2; have c3 := hC.cell c3; have c4 := hC.cell c4; have m0 := hC.cell m0; have m1 := hC.cell m1; have m2 := hC.cell m2; have m3 := hC.cell m3; go_simp; rfl)) (fun K hK => ?_); go_simp; refine hK _ ?_; clear hK K) | (refine calm_no rfl rfl (fun K hK => ?_); go_simp; refine hK _ ?_; clear hK K))
    (first | (refine calm_yes rfl rfl (fun w' hC => (by have c0 := hC.cell c0; have c1 := hC.cell c1; have c2 := hC.cell c2; have c3 := hC.cell c3; have c4 := hC.cell c4; have m0 := hC.cell m0; have m1 := hC.cell m1; have m2 := hC.cell m2; have m3 := hC.cell m3; go_simp; rfl)) (fun K hK => ?_); go_simp; refine hK _ ?_; clear hK K) | (refine calm_no rfl rfl (fun K hK => ?_); go_simp; refine hK _ ?_; clear hK K))
    (first | (apply calm_call rfl rfl rfl Try.func44 (by kernel_rfl) rfl (by go_simp; rfl); exact (fun w' hC => KV.out w' (S.out.ext stR_stab (ext_cls hC))); intro K hK; go_simp; refine hK _ ?_; clear hK K) | (refine calm_no rfl rfl (fun K hK => ?_); go_simp; refine hK _ ?_; clear hK K))
    (first | (refine calm_yes rfl rfl (fun w' hC => (by have c0 := hC.cell c0; have c1 := hC.cell c1; have c2 := hC.cell c2; have c3 := hC.cell c3; have c4 := hC.cell c4; have m0 := hC.cell m0; have m1 := hC.cell m1; have m2 := hC.cell m2; have m3 := hC.cell m3; go_simp; rfl)) (fun K hK => ?_); go_simp; refine hK _ ?_; clear hK K) | (refine calm_no rfl rfl (fun K hK => ?_); go_simp; refine hK _ ?_; clear hK K))
    (first | (refine calm_yes rfl rfl (fun w' hC => (by have c0 := hC.cell c0; have c1 := hC.cell c1; have c2 := hC.cell c2; have c3 := hC.cell c3; have c4 := hC.cell c4; have m0 := hC.cell m0; have m1 := hC.cell m1; have m2 := hC.cell m2; have m3 := hC.cell m3; go_simp; rfl)) (fun K hK => ?_); go_simp; refine hK _ ?_; clear hK K) | (refine calm_no rfl rfl (fun K hK => ?_); go_simp; refine hK _ ?_; clear hK K))
    (first | (refine calm_yes rfl rfl (fun w' hC => (by have c0 := hC.cell c0; have c1 := hC.cell c1; have c2 := hC.cell c2; have c3 := hC.cell c3; have c4 := hC.cell c4; have m0 := hC.cell m0; have m1 := hC.cell m1; have m2 := hC.cell m2; have m3 := hC.cell m3; go_simp; rfl)) (fun K hK => ?_); go_simp; refine hK _ ?_; clear hK K) | (refine calm_no rfl rfl (fun K hK => ?_); go_simp; refine hK _ ?_; clear hK K))
    (first | (refine calm_yes rfl rfl (fun w' hC => (by have c0 := hC.cell c0; have c1 := hC.cell c1; have c2 := hC.cell c2; have c3 := hC.cell c3; have c4 := hC.cell c4; have m0 := hC.cell m0; have m1 := hC.cell m1; have m2 := hC.cell m2; have m3 := hC.cell m3; go_simp; rfl)) (fun K hK => ?_); go_simp; refine hK _ ?_; clear hK K) | (refine calm_no rfl rfl (fun K hK => ?_); go_simp; refine hK _ ?_; clear hK K))
    (first | (refine calm_yes rfl rfl (fun w' hC => (by have c0 := hC.cell c0; have c1 := hC.cell c1; have c2 := hC.cell c2; have c3 := hC.cell c3; have c4 := hC.cell c4; have m0 := hC.cell m0; have m1 := hC.cell m1; have m2 := hC.cell m2; have m3 := hC.cell m3; go_simp; rfl)) (fun K hK => ?_); go_simp; refine hK _ ?_; clear hK K) | (refine calm_no rfl rfl (fun K hK => ?_); go_simp; refine hK _ ?_; clear hK K))
    (first | (refine calm_yes rfl rfl (fun w' hC => (by have c0 := hC.cell c0; have c1 := hC.cell c1; have c2 := hC.cell c2; have c3 := hC.cell c3; have c4 := hC.cell c4; have m0 := hC.cell m0; have m1 := hC.cell m1; have m2 := hC.cell m2; have m3 := hC.cell m3; go_simp; rfl)) (fun K hK => ?_); go_simp; refine hK _ ?_; clear hK K) | (refine calm_no rfl rfl (fun K hK => ?_); go_simp; refine hK _ ?_; clear hK K))
    (first | (refine calm_yes rfl rfl (fun w' hC => (by have c0 := hC.cell c0; have c1 := hC.cell c1; have c2 := hC.cell c2; have c3 := hC.cell c3; have c4 := hC.cell c4; have m0 := hC.cell m0; have m1 := hC.cell m1; have m2 := hC.cell m2; have m3 := hC.cell m3; go_simp; rfl)) (fun K hK => ?_); go_simp; refine hK _ ?_; clear hK K) | (refine calm_no rfl rfl (fun K hK => ?_); go_simp; refine hK _ ?_; clear hK K))
    (first | (refine calm_yes rfl rfl (fun w' hC => (by have c0 := hC.cell c0; have c1 := hC.cell c1; have c2 := hC.cell c2; have c3 := hC.cell c3; have c4 := hC.cell c4; have m0 := hC.cell m0; have m1 := hC.cell m1; have m2 := hC.cell m2; have m3 := hC.cell m3; go_simp; rfl)) (fun K hK => ?_); go_simp; refine hK _ ?_; clear hK K) | (refine calm_no rfl rfl (fun K hK => ?_); go_simp; refine hK _ ?_; clear hK K))
    (first | (refine calm_yes rfl rfl (fun w' hC => (by have c0 := hC.cell c0; have c1 := hC.cell c1; have c2 := hC.cell c2; have c3 := hC.cell c3; have c4 := hC.cell c4; have m0 := hC.cell m0; have m1 := hC.cell m1; have m2 := hC.cell m2; have m3 := hC.cell m3; go_simp; rfl)) (fun K hK => ?_); go_simp; refine hK _ ?_; clear hK K) | (refine calm_no rfl rfl (fun K hK => ?_); go_simp; refine hK _ ?_; clear hK K))
    (first | (refine calm_yes rfl rfl (fun w' hC => (by have c0 := hC.cell c0; have c1 := hC.cell c1; have c2 := hC.cell c2; have c3 := hC.cell c3; have c4 := hC.cell c4; have m0 := hC.cell m0; have m1 := hC.cell m1; have m2 := hC.cell m2; have m3 := hC.cell m3; go_simp; rfl)) (fun K hK => ?_); go_simp; refine hK _ ?_; clear hK K) | (refine calm_no rfl rfl (fun K hK => ?_); go_simp; refine hK _ ?_; clear hK K))
    (first | (refine calm_yes rfl rfl (fun w' hC => (by have c0 := hC.cell c0; have c1 := hC.cell c1; have c2 := hC.cell c2; have c3 := hC.cell c3; have c4 := hC.cell c4; have m0 := hC.cell m0; have m1 := hC.cell m1; have m2 := hC.cell m2; have m3 := hC.cell m3; go_simp; rfl)) (fun K hK => ?_); go_simp; refine hK _ ?_; clear hK K) | (refine calm_no rfl rfl (fun K hK => ?_); go_simp; refine hK _ ?_; clear hK K))
    (first | (refine calm_yes rfl rfl (fun w' hC => (by have c0 := hC.cell c0; have c1 := hC.cell c1; have c2 := hC.cell c2; have c3 := hC.cell c3; have c4 := hC.cell c4; have m0 := hC.cell m0; have m1 := hC.cell m1; have m2 := hC.cell m2; have m3 := hC.cell m3; go_simp; rfl)) (fun K hK => ?_); go_simp; refine hK _ ?_; clear hK K) | (refine calm_no rfl rfl (fun K hK => ?_); go_simp; refine hK _ ?_; clear hK K))
    (first | (refine calm_yes rfl rfl (fun w' hC => (by have c0 := hC.cell c0; have c1 := hC.cell c1; have c2 := hC.cell c2; have c3 := hC.cell c3; have c4 := hC.cell c4; have m0 := hC.cell m0; have m1 := hC.cell m1; have m2 := hC.cell m2; have m3 := hC.cell m3; go_simp; rfl)) (fun K hK => ?_); go_simp; refine hK _ ?_; clear hK K) | (refine calm_no rfl rfl (fun K hK => ?_); go_simp; refine hK _ ?_; clear hK K))
    (first | (refine calm_yes rfl rfl (fun w' hC => (by have c0 := hC.cell c0; have c1 := hC.cell c1; have c2 := hC.cell c2; have c3 := hC.cell c3; have c4 := hC.cell c4; have m0 := hC.cell m0; have m1 := hC.cell m1; have m2 := hC.cell m2; have m3 := hC.cell m3; go_simp; rfl)) (fun K hK => ?_); go_simp; refine hK _ ?_; clear hK K) | (refine calm_no rfl rfl (fun K hK => ?_); go_simp; refine hK _ ?_; clear hK K))
    (first | (refine calm_yes rfl rfl (fun w' hC => (by have c0 := hC.cell c0; have c1 := hC.cell c1; have c2 := hC.cell c2; have c3 := hC.cell c3; have c4 := hC.cell c4; have m0 := hC.cell m0; have m1 := hC.cell m1; have m2 := hC.cell m2; have m3 := hC.cell m3; go_simp; rfl)) (fun K hK => ?_); go_simp; refine hK _ ?_; clear hK K) | (refine calm_no rfl rfl (fun K hK => ?_); go_simp; refine hK _ ?_; clear hK K))
    (first | (refine calm_yes rfl rfl (fun w' hC => (by have c0 := hC.cell c0; have c1 := hC.cell c1; have c2 := hC.cell c2; have c3 := hC.cell c3; have c4 := hC.cell c4; have m0 := hC.cell m0; have m1 := hC.cell m1; have m2 := hC.cell m2; have m3 := hC.cell m3; go_simp; rfl)) (fun K hK => ?_); go_simp; refine hK _ ?_; clear hK K) | (refine calm_no rfl rfl (fun K hK => ?_); go_simp; refine hK _ ?_; clear hK K))
    (first | (refine calm_yes rfl rfl (fun w' hC => (by have c0 := hC.cell c0; have c1 := hC.cell c1; have c2 := hC.cell c2; have c3 := hC.cell c3; have c4 := hC.cell c4; have m0 := hC.cell m0; have m1 := hC.cell m1; have m2 := hC.cell m2; have m3 := hC.cell m3; go_simp; rfl)) (fun K hK => ?_); go_simp; refine hK _ ?_; clear hK K) | (refine calm_no rfl rfl (fun K hK => ?_); go_simp; refine hK _ ?_; clear hK K))
    (first | (refine calm_yes rfl rfl (fun w' hC => (by have c0 := hC.cell c0; have c1 := hC.cell c1; have c2 := hC.cell c2; have c3 := hC.cell c3; have c4 := hC.cell c4; have m0 := hC.cell m0; have m1 := hC.cell m1; have m2 := hC.cell m2; have m3 := hC.cell m3; go_simp; rfl)) (fun K hK => ?_); go_simp; refine hK _ ?_; clear hK K) | (refine calm_no rfl rfl (fun K hK => ?_); go_simp; refine hK _ ?_; clear hK K))
    refine calm_done (fun w5 hb => ?_)
    clear c0 c1 c2 c3 c4 m0 m1 m2 m3
    replace B := Lib.hid (Ext.trans B.out hb)
    replace S := Lib.hid (S.out.ext stR_stab hb)
    replace P := Lib.hid (P.out.ext hb)
    have lP := P.out.lt
    replace C := Lib.hid (C.out.ext hb)
    have lC := C.out.lt
    clear hb
    have c0 := P.out.cell_of (i := 0) rfl
    have c1 := P.out.cell_of (i := 1) rfl
    have c2 := P.out.cell_of (i := 2) rfl
    have c3 := P.out.cell_of (i := 3) rfl
    have c4 := P.out.cell_of (i := 4) rfl
    have m0 := C.out.cell_of (i := 0) rfl
    have m1 := C.out.cell_of (i := 1) rfl
    have m2 := C.out.cell_of (i := 2) rfl
    have m3 := C.out.cell_of (i := 3) rfl
    go_wp2_with fail
    clear c0 c1 c2 c3 c4 m0 m1 m2 m3
    first | refine gen_calls ?_ | refine gen_code ?_ | refine gen_list ?_
    intro w6 hW
    obtain ⟨hb, hD⟩ := new1 hW
    clear hW
    replace B := Lib.hid (Ext.trans B.out hb)
    replace S := Lib.hid (S.out.ext stR_stab hb)
    replace P := Lib.hid (P.out.ext hb)
    have lP := P.out.lt
    replace C := Lib.hid (C.out.ext hb)
    have lC := C.out.lt
    clear hb
    have D := Lib.hid hD
    have lD := D.out.lt
    clear hD
    have c0 := P.out.cell_of (i := 0) rfl
    have c1 := P.out.cell_of (i := 1) rfl
    have c2 := P.out.cell_of (i := 2) rfl
    have c3 := P.out.cell_of (i := 3) rfl
    have c4 := P.out.cell_of (i := 4) rfl
    have m0 := C.out.cell_of (i := 0) rfl
    have m1 := C.out.cell_of (i := 1) rfl
    have m2 := C.out.cell_of (i := 2) rfl
    have m3 := C.out.cell_of (i := 3) rfl
    clear c0 c1 c2 c3 c4 m0 m1 m2 m3
    have c0 := P.out.cell_of (i := 0) rfl
    have c1 := P.out.cell_of (i := 1) rfl
    have c2 := P.out.cell_of (i := 2) rfl
    have c3 := P.out.cell_of (i := 3) rfl
    have c4 := P.out.cell_of (i := 4) rfl
    have m0 := C.out.cell_of (i := 0) rfl
    have m1 := C.out.cell_of (i := 1) rfl
    have m2 := C.out.cell_of (i := 2) rfl
    have m3 := C.out.cell_of (i := 3) rfl
    have d0 := D.out.cell_of (i := 0) rfl
    have d1 := D.out.cell_of (i := 1) rfl
    have KA : Hid (∀ W, Calls Try.prog 52 #[.agg #[.int .i64 f.1, .int .i64 f.2], .agg #[.int .i64 t.1, .int .i64 t.2], .agg #[.int .i64 (16 * c + 8), .int .i64 (16 * r + 8)]] W fun e w' => e = .returned (.int .i64 (alongL f t (16 * c + 8, 16 * r + 8))) ∧ Below W.heap.size W w') := Lib.hid (fun W => c_AlongOf f t (16 * c + 8, 16 * r + 8) W Hf.out Ht.out (by rw [vpB_iff]; dsimp only; omega))
    have KS : Hid (∀ W, Sts W A1 ss → Calls Try.prog 51 #[.slice A1 ss.length cap1, .int .i64 (alongL f t (16 * c + 8, 16 * r + 8))] W fun e w' => e = .returned (bx4V M) ∧ Below W.heap.size W w') := Lib.hid (fun W hW => by
      have := c_StopColor A1 cap1 ss (alongL f t (16 * c + 8, 16 * r + 8)) W hW hcap (by omega) (by have := alongL_bd f t (16 * c + 8, 16 * r + 8); omega)
      rwa [Hfin.out] at this)
    refine wp_region_calm [0,1,2,3,4,5,6,7,8,9,10,11] [] (by kernel_rfl) (by kernel_rfl) ?_
    (refine calm_yes rfl rfl (fun w' hC => (by have c0 := hC.cell c0; have c1 := hC.cell c1; have c2 := hC.cell c2; have c3 := hC.cell c3; have c4 := hC.cell c4; have m0 := hC.cell m0; have m1 := hC.cell m1; have m2 := hC.cell m2; have m3 := hC.cell m3; have d0 := hC.cell d0; have d1 := hC.cell d1; go_simp; rfl)) (fun K hK => ?_); go_simp; refine hK _ ?_; clear hK K)
    (refine calm_yes rfl rfl (fun w' hC => (by have c0 := hC.cell c0; have c1 := hC.cell c1; have c2 := hC.cell c2; have c3 := hC.cell c3; have c4 := hC.cell c4; have m0 := hC.cell m0; have m1 := hC.cell m1; have m2 := hC.cell m2; have m3 := hC.cell m3; have d0 := hC.cell d0; have d1 := hC.cell d1; go_simp; rfl)) (fun K hK => ?_); go_simp; refine hK _ ?_; clear hK K)
    (refine calm_yes rfl rfl (fun w' hC => (by have c0 := hC.cell c0; have c1 := hC.cell c1; have c2 := hC.cell c2; have c3 := hC.cell c3; have c4 := hC.cell c4; have m0 := hC.cell m0; have m1 := hC.cell m1; have m2 := hC.cell m2; have m3 := hC.cell m3; have d0 := hC.cell d0; have d1 := hC.cell d1; go_simp; rfl)) (fun K hK => ?_); go_simp; refine hK _ ?_; clear hK K)
    (refine calm_yes rfl rfl (fun w' hC => (by have c0 := hC.cell c0; have c1 := hC.cell c1; have c2 := hC.cell c2; have c3 := hC.cell c3; have c4 := hC.cell c4; have m0 := hC.cell m0; have m1 := hC.cell m1; have m2 := hC.cell m2; have m3 := hC.cell m3; have d0 := hC.cell d0; have d1 := hC.cell d1; go_simp; rfl)) (fun K hK => ?_); go_simp; refine hK _ ?_; clear hK K)
    (refine calm_yes rfl rfl (fun w' hC => (by have c0 := hC.cell c0; have c1 := hC.cell c1; have c2 := hC.cell c2; have c3 := hC.cell c3; have c4 := hC.cell c4; have m0 := hC.cell m0; have m1 := hC.cell m1; have m2 := hC.cell m2; have m3 := hC.cell m3; have d0 := hC.cell d0; have d1 := hC.cell d1; go_simp; rfl)) (fun K hK => ?_); go_simp; refine hK _ ?_; clear hK K)
    (refine calm_yes rfl rfl (fun w' hC => (by have c0 := hC.cell c0; have c1 := hC.cell c1; have c2 := hC.cell c2; have c3 := hC.cell c3; have c4 := hC.cell c4; have m0 := hC.cell m0; have m1 := hC.cell m1; have m2 := hC.cell m2; have m3 := hC.cell m3; have d0 := hC.cell d0; have d1 := hC.cell d1; go_simp; rfl)) (fun K hK => ?_); go_simp; refine hK _ ?_; clear hK K)
    (refine calm_yes rfl rfl (fun w' hC => (by have c0 := hC.cell c0; have c1 := hC.cell c1; have c2 := hC.cell c2; have c3 := hC.cell c3; have c4 := hC.cell c4; have m0 := hC.cell m0; have m1 := hC.cell m1; have m2 := hC.cell m2; have m3 := hC.cell m3; have d0 := hC.cell d0; have d1 := hC.cell d1; go_simp; rfl)) (fun K hK => ?_); go_simp; refine hK _ ?_; clear hK K)
    (refine calm_yes rfl rfl (fun w' hC => (by have c0 := hC.cell c0; have c1 := hC.cell c1; have c2 := hC.cell c2; have c3 := hC.cell c3; have c4 := hC.cell c4; have m0 := hC.cell m0; have m1 := hC.cell m1; have m2 := hC.cell m2; have m3 := hC.cell m3; have d0 := hC.cell d0; have d1 := hC.cell d1; go_simp; rfl)) (fun K hK => ?_); go_simp; refine hK _ ?_; clear hK K)
    (apply calm_call rfl rfl rfl Try.func52 (by kernel_rfl) rfl (by go_simp; rfl); exact (fun w' hC => KA.out w'); intro K hK; go_simp; refine hK _ ?_; clear hK K)
    (apply calm_call rfl rfl rfl Try.func51 (by kernel_rfl) rfl (by go_simp; rfl); exact (fun w' hC => KS.out w' (S.out.ext stR_stab (ext_cls hC))); intro K hK; go_simp; refine hK _ ?_; clear hK K)
    (refine calm_yes rfl rfl (fun w' hC => (by have c0 := hC.cell c0; have c1 := hC.cell c1; have c2 := hC.cell c2; have c3 := hC.cell c3; have c4 := hC.cell c4; have m0 := hC.cell m0; have m1 := hC.cell m1; have m2 := hC.cell m2; have m3 := hC.cell m3; have d0 := hC.cell d0; have d1 := hC.cell d1; go_simp; rfl)) (fun K hK => ?_); go_simp; refine hK _ ?_; clear hK K)
    (refine calm_yes rfl rfl (fun w' hC => (by have c0 := hC.cell c0; have c1 := hC.cell c1; have c2 := hC.cell c2; have c3 := hC.cell c3; have c4 := hC.cell c4; have m0 := hC.cell m0; have m1 := hC.cell m1; have m2 := hC.cell m2; have m3 := hC.cell m3; have d0 := hC.cell d0; have d1 := hC.cell d1; go_simp; rfl)) (fun K hK => ?_); go_simp; refine hK _ ?_; clear hK K)
    refine calm_done (fun w7 hb => ?_)
    clear c0 c1 c2 c3 c4 m0 m1 m2 m3 d0 d1
    replace B := Lib.hid (Ext.trans B.out hb)
    replace S := Lib.hid (S.out.ext stR_stab hb)
    replace P := Lib.hid (P.out.ext hb)
    have lP := P.out.lt
    replace C := Lib.hid (C.out.ext hb)
    have lC := C.out.lt
    replace D := Lib.hid (D.out.ext hb)
    have lD := D.out.lt
    clear hb
    have c0 := P.out.cell_of (i := 0) rfl
    have c1 := P.out.cell_of (i := 1) rfl
    have c2 := P.out.cell_of (i := 2) rfl
    have c3 := P.out.cell_of (i := 3) rfl
    have c4 := P.out.cell_of (i := 4) rfl
    have m0 := C.out.cell_of (i := 0) rfl
    have m1 := C.out.cell_of (i := 1) rfl
    have m2 := C.out.cell_of (i := 2) rfl
    have m3 := C.out.cell_of (i := 3) rfl
    have d0 := D.out.cell_of (i := 0) rfl
    have d1 := D.out.cell_of (i := 1) rfl
    go_wp2
    go_ret
    exact ⟨rfl, B.out⟩
  · have hnI : (1048576 : Int) < (bs.length : Int) := by omega
    clear h
    go_enter Try.func14, Try.ntmps14
    go_wp2
    go_ret
    exact ⟨rfl, Below.refl _ _⟩

theorem opens0 : Opens Try.prog 47 (slR byteR 1 ) :=  opens_slice Try.underlying47 (by kernel_rfl) (by decide) (opens_byte Try.underlying5)
set_option maxRecDepth 100000 in
theorem lifted (os : Os) (started : os.Started) (H : Type) (enc : TypeId × Value → H) :
    ReturnsInHanded {} Try.checked os 14 .any (Rows.fnPaintAtSpec.pre6 enc Try.prog Try.f14 Rows.fnPaintAtRow.domain false) (Rows.fnPaintAtSpec.post enc Try.prog Try.f14 false true false false) := by
  refine returnsInHanded_of_change (C := Try.checked) own started (by kernel_rfl) Try.func14
    (ChangeSpec.witness6 (enc := enc) (C := Try.checked) false ⟨#[], #[.slice none 0 0], []⟩ 8 (by kernel_rfl) (by kernel_rfl) (by kernel_rfl) (by kernel_rfl)) ?_
  intro W base args ds gs before hval0 hW hcnd _
  have hval : ∀ (j : Nat) t v, Try.f14.params[j]? = some t → args[j]? = some v → Value.okWide Try.prog W .any base t v := hval0
  have hW' := hW
  obtain ⟨p, q, hA0, hV, rfl, hfz, hnd⟩ := hW
  have hA : DataW.TrodAll enc Try.prog W 0 (fun _ => true) true Try.f14.params.toList args.toList ds p := hA0
  rw [Try.params14] at hA hval
  obtain ⟨v0, vs0, d0, ds0, p0, q0, hargs, rfl, rfl, h0, r0⟩ := trodAll_cons hA
  obtain ⟨rfl, rfl, rfl⟩ := trodAll_nil r0
  obtain rfl : args = #[v0] := by cases args; simp_all
  obtain ⟨rfl, rfl, rfl⟩ := trodVars_none hV
  obtain ⟨a0, len0, cap0, rfl⟩ := okWide_slice Try.underlying47 (hval 0 47 v0 rfl rfl)
  have k0 := h0
  have lt0 : ∀ x ∈ p0, x.block < W.heap.size := by obtain ⟨m, hm⟩ := k0; exact DataW.trod_lt m _ _ _ hm
  obtain ⟨xs0, rfl, w0, wl0, wc0⟩ := open_arg rfl opens0 h0
  clear hA0 hval0
  refine (walk a0 cap0 xs0 W w0 wl0 wc0).mono fun e W' ⟨he, bel⟩ => ?_
  subst he
  exact ⟨_, rfl, _, _, _, [], _, [], hW', trodAll_mk1 (shut_bool Try.underlying4 _), (trodAll_cons_mk (Below.trod laidOut (by kernel_rfl) (of_decide_eq_true (by kernel_rfl)) k0 bel lt0) trodAll_mk0), rfl, bel.frame _, fun h => by cases h⟩
theorem over : Rows.fnPaintAtRow.holds Try.pinned (OpenSpec.ofChange Rows.fnPaintAtSpec) :=
  OpenClaim.holds_of_wide 14 Try.f14 rfl rfl rfl rfl rfl rfl rfl ⟨rfl, rfl, rfl, rfl, rfl⟩ rfl rfl rfl rfl rfl (by kernel_rfl) Try.func14 (by kernel_rfl)
    (of_decide_eq_true (by kernel_rfl)) (by unfold Func.isWrapper; first | (rw [if_pos (by decide +kernel)]; kernel_rfl) | (rw [if_neg (by decide +kernel)]; exact ⟨rfl, rfl⟩))
    (fun os started H enc _ => lifted os started H enc)

theorem proved : Rows.FnPaintAtSaid := over

end Go.Proofs.Ytonilmpodijgeaa.fnPaintAt
