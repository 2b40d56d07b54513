/-
  Lists of edges compared: the walks.
-/
import Derived.Test.YtefbebikbdigfaaEdges
import Derived.Test.YtefbebikbdigfaaPts
namespace Go.Proofs.Ytefbebikbdigfaa
open Go Go.RowKit Reg
attribute [local go_sem] calmAt calmUpon
set_option maxHeartbeats 1000000 in
theorem c_eqEdge (e : Ed) (w : World) : Calls Try.prog 44 #[edV e, edV e] w fun r w' => r = .returned (.bool true) ∧ Below w.heap.size w w' := by
  obtain ⟨⟨ax, ay⟩, bx, bz⟩ := e
  have E := Lib.hid (Below.refl w.heap.size w)
  go_enter Try.func44, Try.ntmps44
  go_wp2_with fail
  first | refine gen_calls ?_ | refine gen_code ?_ | refine gen_list ?_
  intro w1 hW
  obtain ⟨hb, hA, hB⟩ := new2 hW
  clear hW
  replace E := Lib.hid (Ext.trans E.out hb)
  clear hb
  have A := Lib.hid hA
  have lA := A.out.lt
  clear hA
  have B := Lib.hid hB
  have lB := B.out.lt
  clear hB
  have a0 := A.out.cell_of (i := 0) rfl
  have a1 := A.out.cell_of (i := 1) rfl
  have a2 := A.out.cell_of (i := 2) rfl
  have a3 := A.out.cell_of (i := 3) rfl
  have b0 := B.out.cell_of (i := 0) rfl
  have b1 := B.out.cell_of (i := 1) rfl
  have b2 := B.out.cell_of (i := 2) rfl
  have b3 := B.out.cell_of (i := 3) rfl
  go_wp2_with fail
  clear a0 a1 a2 a3 b0 b1 b2 b3
  refine (c_eqPoint (ax, ay) (ax, ay) _).mono ?_
  rw [(decide_eq_true (rfl : (ax, ay) = (ax, ay)))]
  rintro e w2 ⟨rfl, hb⟩
  replace E := Lib.hid (Ext.trans E.out hb)
  replace A := Lib.hid (A.out.ext hb)
  have lA := A.out.lt
  replace B := Lib.hid (B.out.ext hb)
  have lB := B.out.lt
  clear hb
  have a0 := A.out.cell_of (i := 0) rfl
  have a1 := A.out.cell_of (i := 1) rfl
  have a2 := A.out.cell_of (i := 2) rfl
  have a3 := A.out.cell_of (i := 3) rfl
  have b0 := B.out.cell_of (i := 0) rfl
  have b1 := B.out.cell_of (i := 1) rfl
  have b2 := B.out.cell_of (i := 2) rfl
  have b3 := B.out.cell_of (i := 3) rfl
  go_wp2_with fail
  clear a0 a1 a2 a3 b0 b1 b2 b3
  refine (c_eqPoint (bx, bz) (bx, bz) _).mono ?_
  rw [(decide_eq_true (rfl : (bx, bz) = (bx, bz)))]
  rintro e w3 ⟨rfl, hb⟩
  replace E := Lib.hid (Ext.trans E.out hb)
  replace A := Lib.hid (A.out.ext hb)
  have lA := A.out.lt
  replace B := Lib.hid (B.out.ext hb)
  have lB := B.out.lt
  clear hb
  have a0 := A.out.cell_of (i := 0) rfl
  have a1 := A.out.cell_of (i := 1) rfl
  have a2 := A.out.cell_of (i := 2) rfl
  have a3 := A.out.cell_of (i := 3) rfl
  have b0 := B.out.cell_of (i := 0) rfl
  have b1 := B.out.cell_of (i := 1) rfl
  have b2 := B.out.cell_of (i := 2) rfl
  have b3 := B.out.cell_of (i := 3) rfl
  go_wp2
  go_ret
  exact ⟨rfl, E.out⟩
set_option maxRecDepth 100000 in
set_option maxHeartbeats 2000000 in
theorem c_eqEdgeS (A1 A2 : Option Addr) (cap1 cap2 : Nat) (es : List Ed) (w : World) (h1 : Eds w A1 es) (h2 : Eds w A2 es) (hl : es.length ≤ 1048576) :
    Calls Try.prog 11 #[.slice A1 es.length cap1, .slice A2 es.length cap2] w fun e w' => e = .returned (.bool true) ∧ Below w.heap.size w w' := by
  have H := Lib.hid h1
  have H2 := Lib.hid h2
  clear h1 h2
  go_enter Try.func11, Try.ntmps11
  go_wp2_with fail
  go_loopw [5] (fun i wr => ∃ (k : Nat), k ≤ es.length ∧ i = .int .i64 k ∧ Ext w wr) (fun i _ => es.length - (intOf i).toNat)
  case atStart => exact ⟨0, Nat.zero_le _, rfl, Below.refl _ _⟩
  case round =>
    obtain ⟨k, hk, rfl, hbw⟩ := hrel
    have E := Lib.hid hbw
    clear hbw
    by_cases hlt : k < es.length
    · obtain ⟨b, off, hA, _, hc⟩ := (H.out.ext edR_stab E.out).eds (by omega)
      obtain ⟨b2, off2, hA2, _, hc2⟩ := (H2.out.ext edR_stab E.out).eds (by omega)
      obtain ⟨c0, c1, c2, c3⟩ := hc k hlt
      obtain ⟨d0, d1, d2, d3⟩ := hc2 k hlt
      have hkI : decide ((k : Int) < (es.length : Int)) = true := by simp; omega
      have hkI2 : (k : Int) < (es.length : Int) := by omega
      clear hc hc2
      generalize es[k] = e at *
      subst hA hA2
      go_wp2_with fail
      refine wp_region_calm [0,1,2,3,4,5,6,7,8,9] [] (by kernel_rfl) (by kernel_rfl) ?_
      (refine calm_yes rfl rfl (fun w' hC => (by have c0 := hC.cell c0; have c1 := hC.cell c1; have c2 := hC.cell c2; have c3 := hC.cell c3; have d0 := hC.cell d0; have d1 := hC.cell d1; have d2 := hC.cell d2; have d3 := hC.cell d3; go_simp; rfl)) (fun K hK => ?_); go_simp; refine hK _ ?_; clear hK K)
      (refine calm_yes rfl rfl (fun w' hC => (by have c0 := hC.cell c0; have c1 := hC.cell c1; have c2 := hC.cell c2; have c3 := hC.cell c3; have d0 := hC.cell d0; have d1 := hC.cell d1; have d2 := hC.cell d2; have d3 := hC.cell d3; go_simp; rfl)) (fun K hK => ?_); go_simp; refine hK _ ?_; clear hK K)
      (refine calm_yes rfl rfl (fun w' hC => (by have c0 := hC.cell c0; have c1 := hC.cell c1; have c2 := hC.cell c2; have c3 := hC.cell c3; have d0 := hC.cell d0; have d1 := hC.cell d1; have d2 := hC.cell d2; have d3 := hC.cell d3; go_simp; rfl)) (fun K hK => ?_); go_simp; refine hK _ ?_; clear hK K)
      (refine calm_yes rfl rfl (fun w' hC => (by have c0 := hC.cell c0; have c1 := hC.cell c1; have c2 := hC.cell c2; have c3 := hC.cell c3; have d0 := hC.cell d0; have d1 := hC.cell d1; have d2 := hC.cell d2; have d3 := hC.cell d3; go_simp; rfl)) (fun K hK => ?_); go_simp; refine hK _ ?_; clear hK K)
      (refine calm_yes rfl rfl (fun w' hC => (by have c0 := hC.cell c0; have c1 := hC.cell c1; have c2 := hC.cell c2; have c3 := hC.cell c3; have d0 := hC.cell d0; have d1 := hC.cell d1; have d2 := hC.cell d2; have d3 := hC.cell d3; go_simp; rfl)) (fun K hK => ?_); go_simp; refine hK _ ?_; clear hK K)
      (refine calm_yes rfl rfl (fun w' hC => (by have c0 := hC.cell c0; have c1 := hC.cell c1; have c2 := hC.cell c2; have c3 := hC.cell c3; have d0 := hC.cell d0; have d1 := hC.cell d1; have d2 := hC.cell d2; have d3 := hC.cell d3; go_simp; rfl)) (fun K hK => ?_); go_simp; refine hK _ ?_; clear hK K)
      (refine calm_yes rfl rfl (fun w' hC => (by have c0 := hC.cell c0; have c1 := hC.cell c1; have c2 := hC.cell c2; have c3 := hC.cell c3; have d0 := hC.cell d0; have d1 := hC.cell d1; have d2 := hC.cell d2; have d3 := hC.cell d3; go_simp; rfl)) (fun K hK => ?_); go_simp; refine hK _ ?_; clear hK K)
      (refine calm_yes rfl rfl (fun w' hC => (by have c0 := hC.cell c0; have c1 := hC.cell c1; have c2 := hC.cell c2; have c3 := hC.cell c3; have d0 := hC.cell d0; have d1 := hC.cell d1; have d2 := hC.cell d2; have d3 := hC.cell d3; go_simp; rfl)) (fun K hK => ?_); go_simp; refine hK _ ?_; clear hK K)
      (apply calm_call rfl rfl rfl Try.func44 (by kernel_rfl) rfl (by go_simp; rfl); exact (fun w' hC => c_eqEdge e w'); intro K hK; go_simp; refine hK _ ?_; clear hK K)
      (refine calm_yes rfl rfl (fun w' hC => (by have c0 := hC.cell c0; have c1 := hC.cell c1; have c2 := hC.cell c2; have c3 := hC.cell c3; have d0 := hC.cell d0; have d1 := hC.cell d1; have d2 := hC.cell d2; have d3 := hC.cell d3; go_simp; rfl)) (fun K hK => ?_); go_simp; refine hK _ ?_; clear hK K)
      refine calm_done (fun w1 hb => ?_)
      clear c0 c1 c2 c3 d0 d1 d2 d3
      replace E := Lib.hid (Ext.trans E.out hb)
      clear hb
      go_wp2
      go_roundw
      case rel => exact ⟨k + 1, by omega, by go_num, E.out⟩
      case measure => simp [intOf]; omega
    · have hk' : ¬ ((k : Int) < (es.length : Int)) := by omega
      go_wp2
      go_ret
      exact ⟨rfl, E.out⟩
end Go.Proofs.Ytefbebikbdigfaa
