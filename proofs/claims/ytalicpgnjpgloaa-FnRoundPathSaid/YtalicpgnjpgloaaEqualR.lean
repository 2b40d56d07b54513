/-
  Polygons and paths that are the same are found to be.
-/
import Derived.Test.YtalicpgnjpgloaaEqual
import Derived.Test.YtalicpgnjpgloaaMg8
import Derived.Test.YtalicpgnjpgloaaVbPut
namespace Go.Proofs.Ytalicpgnjpgloaa
open Go Go.RowKit Reg
attribute [local go_sem] calmAt calmUpon
set_option maxRecDepth 100000 in
set_option maxHeartbeats 2000000 in
theorem c_equalPath (A1 A2 : Option Addr) (cap1 cap2 : Nat) (vs : List Vb) (w : World) (h1 : Vbs w A1 vs) (h2 : Vbs w A2 vs) (hl : vs.length ≤ 1048576) (hs : ∀ v ∈ vs, v.2.length ≤ 1048576) :
    Calls Try.prog 13 #[.slice A1 vs.length cap1, .slice A2 vs.length cap2] w fun e w' => e = .returned (.bool true) ∧ Below w.heap.size w w' := by
  have H := Lib.hid h1
  have H2 := Lib.hid h2
  have Hs := Lib.hid hs
  clear h1 h2 hs
  go_enter Try.func13, Try.ntmps13
  go_wp2_with fail
  go_loopw [5] (fun i wr => ∃ (k : Nat), k ≤ vs.length ∧ i = .int .i64 k ∧ Ext w wr) (fun i _ => vs.length - (intOf i).toNat)
  case atStart => exact ⟨0, Nat.zero_le _, rfl, Below.refl _ _⟩
  case round =>
    obtain ⟨k, hk, rfl, hbw⟩ := hrel
    have E := Lib.hid hbw
    clear hbw
    by_cases hlt : k < vs.length
    · obtain ⟨b, off, hA, _, hc⟩ := (H.out.ext verbR_stab E.out).vbs (by omega)
      obtain ⟨b2, off2, hA2, _, hc2⟩ := (H2.out.ext verbR_stab E.out).vbs (by omega)
      obtain ⟨A', cap', cq, cr, hp⟩ := hc k hlt
      obtain ⟨A'', cap'', cq2, cr2, hp2⟩ := hc2 k hlt
      have h3 := Hs.out _ (List.getElem_mem hlt)
      have P1 := Lib.hid hp
      have P2 := Lib.hid hp2
      have Cq := Lib.hid cq
      have Cq2 := Lib.hid cq2
      have Cr := Lib.hid cr
      have Cr2 := Lib.hid cr2
      clear hc hp hc2 hp2 cr cr2 cq cq2
      generalize vs[k] = v at *
      obtain ⟨q, r⟩ := v
      dsimp only at P1 P2 Cq Cq2 Cr Cr2 h3
      have K : Hid (∀ W, Pts W A' r → Pts W A'' r → Calls Try.prog 36 #[.slice A' r.length cap', .slice A'' r.length cap''] W fun e w' => e = .returned (.bool true) ∧ Below W.heap.size W w') := Lib.hid (fun W hW hW2 => by
        have := c_equalPoints A' A'' cap' cap'' r r W hW hW2 (by omega) (by omega)
        rw [decide_eq_true (rfl : r = r)] at this
        exact this)
      subst hA hA2
      have cq := Cq.out
      have cq2 := Cq2.out
      have cr := Cr.out
      have cr2 := Cr2.out
      have hkI : decide ((k : Int) < (vs.length : Int)) = true := by simp; omega
      go_wp2_with fail
      refine wp_region_calm [0,1,2,3,4,5,6,7,8,9,10,11,12,13,14,15,16,17,18,19,20,21,22,23,24] [] (by kernel_rfl) (by kernel_rfl) ?_
      (first | (refine calm_yes rfl rfl (fun w' hC => (by have cq := hC.cell cq; have cq2 := hC.cell cq2; have cr := hC.cell cr; have cr2 := hC.cell cr2; go_simp; rfl)) (fun K hK => ?_); go_simp; refine hK _ ?_; clear hK K) | (refine calm_no rfl rfl (fun K hK => ?_); go_simp; refine hK _ ?_; clear hK K))
      (first | (refine calm_yes rfl rfl (fun w' hC => (by have cq := hC.cell cq; have cq2 := hC.cell cq2; have cr := hC.cell cr; have cr2 := hC.cell cr2; go_simp; rfl)) (fun K hK => ?_); go_simp; refine hK _ ?_; clear hK K) | (refine calm_no rfl rfl (fun K hK => ?_); go_simp; refine hK _ ?_; clear hK K))
      (first | (refine calm_yes rfl rfl (fun w' hC => (by have cq := hC.cell cq; have cq2 := hC.cell cq2; have cr := hC.cell cr; have cr2 := hC.cell cr2; go_simp; rfl)) (fun K hK => ?_); go_simp; refine hK _ ?_; clear hK K) | (refine calm_no rfl rfl (fun K hK => ?_); go_simp; refine hK _ ?_; clear hK K))
      (first | (refine calm_yes rfl rfl (fun w' hC => (by have cq := hC.cell cq; have cq2 := hC.cell cq2; have cr := hC.cell cr; have cr2 := hC.cell cr2; go_simp; rfl)) (fun K hK => ?_); go_simp; refine hK _ ?_; clear hK K) | (refine calm_no rfl rfl (fun K hK => ?_); go_simp; refine hK _ ?_; clear hK K))
      (first | (refine calm_yes rfl rfl (fun w' hC => (by have cq := hC.cell cq; have cq2 := hC.cell cq2; have cr := hC.cell cr; have cr2 := hC.cell cr2; go_simp; rfl)) (fun K hK => ?_); go_simp; refine hK _ ?_; clear hK K) | (refine calm_no rfl rfl (fun K hK => ?_); go_simp; refine hK _ ?_; clear hK K))
      (first | (refine calm_yes rfl rfl (fun w' hC => (by have cq := hC.cell cq; have cq2 := hC.cell cq2; have cr := hC.cell cr; have cr2 := hC.cell cr2; go_simp; rfl)) (fun K hK => ?_); go_simp; refine hK _ ?_; clear hK K) | (refine calm_no rfl rfl (fun K hK => ?_); go_simp; refine hK _ ?_; clear hK K))
      (first | (refine calm_yes rfl rfl (fun w' hC => (by have cq := hC.cell cq; have cq2 := hC.cell cq2; have cr := hC.cell cr; have cr2 := hC.cell cr2; go_simp; rfl)) (fun K hK => ?_); go_simp; refine hK _ ?_; clear hK K) | (refine calm_no rfl rfl (fun K hK => ?_); go_simp; refine hK _ ?_; clear hK K))
      (first | (refine calm_yes rfl rfl (fun w' hC => (by have cq := hC.cell cq; have cq2 := hC.cell cq2; have cr := hC.cell cr; have cr2 := hC.cell cr2; go_simp; rfl)) (fun K hK => ?_); go_simp; refine hK _ ?_; clear hK K) | (refine calm_no rfl rfl (fun K hK => ?_); go_simp; refine hK _ ?_; clear hK K))
      (first | (refine calm_yes rfl rfl (fun w' hC => (by have cq := hC.cell cq; have cq2 := hC.cell cq2; have cr := hC.cell cr; have cr2 := hC.cell cr2; go_simp; rfl)) (fun K hK => ?_); go_simp; refine hK _ ?_; clear hK K) | (refine calm_no rfl rfl (fun K hK => ?_); go_simp; refine hK _ ?_; clear hK K))
      (first | (refine calm_yes rfl rfl (fun w' hC => (by have cq := hC.cell cq; have cq2 := hC.cell cq2; have cr := hC.cell cr; have cr2 := hC.cell cr2; go_simp; rfl)) (fun K hK => ?_); go_simp; refine hK _ ?_; clear hK K) | (refine calm_no rfl rfl (fun K hK => ?_); go_simp; refine hK _ ?_; clear hK K))
      (first | (refine calm_yes rfl rfl (fun w' hC => (by have cq := hC.cell cq; have cq2 := hC.cell cq2; have cr := hC.cell cr; have cr2 := hC.cell cr2; go_simp; rfl)) (fun K hK => ?_); go_simp; refine hK _ ?_; clear hK K) | (refine calm_no rfl rfl (fun K hK => ?_); go_simp; refine hK _ ?_; clear hK K))
      (first | (refine calm_yes rfl rfl (fun w' hC => (by have cq := hC.cell cq; have cq2 := hC.cell cq2; have cr := hC.cell cr; have cr2 := hC.cell cr2; go_simp; rfl)) (fun K hK => ?_); go_simp; refine hK _ ?_; clear hK K) | (refine calm_no rfl rfl (fun K hK => ?_); go_simp; refine hK _ ?_; clear hK K))
      (first | (refine calm_yes rfl rfl (fun w' hC => (by have cq := hC.cell cq; have cq2 := hC.cell cq2; have cr := hC.cell cr; have cr2 := hC.cell cr2; go_simp; rfl)) (fun K hK => ?_); go_simp; refine hK _ ?_; clear hK K) | (refine calm_no rfl rfl (fun K hK => ?_); go_simp; refine hK _ ?_; clear hK K))
      (first | (refine calm_yes rfl rfl (fun w' hC => (by have cq := hC.cell cq; have cq2 := hC.cell cq2; have cr := hC.cell cr; have cr2 := hC.cell cr2; go_simp; rfl)) (fun K hK => ?_); go_simp; refine hK _ ?_; clear hK K) | (refine calm_no rfl rfl (fun K hK => ?_); go_simp; refine hK _ ?_; clear hK K))
      (first | (refine calm_yes rfl rfl (fun w' hC => (by have cq := hC.cell cq; have cq2 := hC.cell cq2; have cr := hC.cell cr; have cr2 := hC.cell cr2; go_simp; rfl)) (fun K hK => ?_); go_simp; refine hK _ ?_; clear hK K) | (refine calm_no rfl rfl (fun K hK => ?_); go_simp; refine hK _ ?_; clear hK K))
      (first | (refine calm_yes rfl rfl (fun w' hC => (by have cq := hC.cell cq; have cq2 := hC.cell cq2; have cr := hC.cell cr; have cr2 := hC.cell cr2; go_simp; rfl)) (fun K hK => ?_); go_simp; refine hK _ ?_; clear hK K) | (refine calm_no rfl rfl (fun K hK => ?_); go_simp; refine hK _ ?_; clear hK K))
      (first | (refine calm_yes rfl rfl (fun w' hC => (by have cq := hC.cell cq; have cq2 := hC.cell cq2; have cr := hC.cell cr; have cr2 := hC.cell cr2; go_simp; rfl)) (fun K hK => ?_); go_simp; refine hK _ ?_; clear hK K) | (refine calm_no rfl rfl (fun K hK => ?_); go_simp; refine hK _ ?_; clear hK K))
      (first | (refine calm_yes rfl rfl (fun w' hC => (by have cq := hC.cell cq; have cq2 := hC.cell cq2; have cr := hC.cell cr; have cr2 := hC.cell cr2; go_simp; rfl)) (fun K hK => ?_); go_simp; refine hK _ ?_; clear hK K) | (refine calm_no rfl rfl (fun K hK => ?_); go_simp; refine hK _ ?_; clear hK K))
      (first | (refine calm_yes rfl rfl (fun w' hC => (by have cq := hC.cell cq; have cq2 := hC.cell cq2; have cr := hC.cell cr; have cr2 := hC.cell cr2; go_simp; rfl)) (fun K hK => ?_); go_simp; refine hK _ ?_; clear hK K) | (refine calm_no rfl rfl (fun K hK => ?_); go_simp; refine hK _ ?_; clear hK K))
      (first | (refine calm_yes rfl rfl (fun w' hC => (by have cq := hC.cell cq; have cq2 := hC.cell cq2; have cr := hC.cell cr; have cr2 := hC.cell cr2; go_simp; rfl)) (fun K hK => ?_); go_simp; refine hK _ ?_; clear hK K) | (refine calm_no rfl rfl (fun K hK => ?_); go_simp; refine hK _ ?_; clear hK K))
      (first | (refine calm_yes rfl rfl (fun w' hC => (by have cq := hC.cell cq; have cq2 := hC.cell cq2; have cr := hC.cell cr; have cr2 := hC.cell cr2; go_simp; rfl)) (fun K hK => ?_); go_simp; refine hK _ ?_; clear hK K) | (refine calm_no rfl rfl (fun K hK => ?_); go_simp; refine hK _ ?_; clear hK K))
      (first | (refine calm_yes rfl rfl (fun w' hC => (by have cq := hC.cell cq; have cq2 := hC.cell cq2; have cr := hC.cell cr; have cr2 := hC.cell cr2; go_simp; rfl)) (fun K hK => ?_); go_simp; refine hK _ ?_; clear hK K) | (refine calm_no rfl rfl (fun K hK => ?_); go_simp; refine hK _ ?_; clear hK K))
      (first | (apply calm_call rfl rfl rfl Try.func36 (by kernel_rfl) rfl (by go_simp; rfl); exact (fun w' hC => K.out w' (P1.out.ext ptR_stab (ext_cls hC)) (P2.out.ext ptR_stab (ext_cls hC))); intro K hK; go_simp; refine hK _ ?_; clear hK K) | (refine calm_no rfl rfl (fun K hK => ?_); go_simp; refine hK _ ?_; clear hK K))
      (first | (refine calm_yes rfl rfl (fun w' hC => (by have cq := hC.cell cq; have cq2 := hC.cell cq2; have cr := hC.cell cr; have cr2 := hC.cell cr2; go_simp; rfl)) (fun K hK => ?_); go_simp; refine hK _ ?_; clear hK K) | (refine calm_no rfl rfl (fun K hK => ?_); go_simp; refine hK _ ?_; clear hK K))
      (first | (refine calm_yes rfl rfl (fun w' hC => (by have cq := hC.cell cq; have cq2 := hC.cell cq2; have cr := hC.cell cr; have cr2 := hC.cell cr2; go_simp; rfl)) (fun K hK => ?_); go_simp; refine hK _ ?_; clear hK K) | (refine calm_no rfl rfl (fun K hK => ?_); go_simp; refine hK _ ?_; clear hK K))
      refine calm_done (fun w1 hb => ?_)
      clear cq cq2 cr cr2
      replace E := Lib.hid (Ext.trans E.out hb)
      replace P1 := Lib.hid (P1.out.ext ptR_stab hb)
      replace P2 := Lib.hid (P2.out.ext ptR_stab hb)
      replace Cq := Lib.hid (Cls.cell hb Cq.out)
      replace Cq2 := Lib.hid (Cls.cell hb Cq2.out)
      replace Cr := Lib.hid (Cls.cell hb Cr.out)
      replace Cr2 := Lib.hid (Cls.cell hb Cr2.out)
      clear hb
      have cCq := Cq.out
      have cCq2 := Cq2.out
      have cCr := Cr.out
      have cCr2 := Cr2.out
      go_wp2
      go_roundw
      case rel => exact ⟨k + 1, by omega, by go_num, E.out⟩
      case measure => simp [intOf]; omega
    · have hk' : ¬ ((k : Int) < (vs.length : Int)) := by omega
      go_wp2
      go_ret
      exact ⟨rfl, E.out⟩
end Go.Proofs.Ytalicpgnjpgloaa
