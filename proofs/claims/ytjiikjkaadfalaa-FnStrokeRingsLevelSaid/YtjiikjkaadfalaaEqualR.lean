/-
  Polygons and paths that are the same are found to be.
-/
import Derived.Test.YtjiikjkaadfalaaEqual
import Derived.Test.YtjiikjkaadfalaaOrg
import Derived.Test.YtjiikjkaadfalaaVbPut
namespace Go.Proofs.Ytjiikjkaadfalaa
open Go Go.RowKit Reg
attribute [local go_sem] calmAt calmUpon
set_option maxRecDepth 100000 in
set_option maxHeartbeats 2000000 in
theorem c_equalRings (A1 A2 : Option Addr) (cap1 cap2 : Nat) (rs : List Rg) (w : World) (h1 : Rgs w A1 rs) (h2 : Rgs w A2 rs) (hl : rs.length ≤ 1048576) (hs : ∀ r ∈ rs, r.length ≤ 1048576) :
    Calls Try.prog 15 #[.slice A1 rs.length cap1, .slice A2 rs.length cap2] w fun e w' => e = .returned (.bool true) ∧ Below w.heap.size w w' := by
  have H := Lib.hid h1
  have H2 := Lib.hid h2
  have Hs := Lib.hid hs
  clear h1 h2 hs
  go_enter Try.func15, Try.ntmps15
  go_wp2_with fail
  go_loopw [5] (fun i wr => ∃ (k : Nat), k ≤ rs.length ∧ i = .int .i64 k ∧ Ext w wr) (fun i _ => rs.length - (intOf i).toNat)
  case atStart => exact ⟨0, Nat.zero_le _, rfl, Below.refl _ _⟩
  case round =>
    obtain ⟨k, hk, rfl, hbw⟩ := hrel
    have E := Lib.hid hbw
    clear hbw
    by_cases hlt : k < rs.length
    · obtain ⟨b, off, hA, _, hc⟩ := (H.out.ext rgR_stab E.out).rgs (by omega)
      obtain ⟨b2, off2, hA2, _, hc2⟩ := (H2.out.ext rgR_stab E.out).rgs (by omega)
      obtain ⟨A', cap', cr, hp, _, _⟩ := hc k hlt
      obtain ⟨A'', cap'', cr2, hp2, _, _⟩ := hc2 k hlt
      have h3 := Hs.out _ (List.getElem_mem hlt)
      have P1 := Lib.hid hp
      have P2 := Lib.hid hp2
      have Cr := Lib.hid cr
      have Cr2 := Lib.hid cr2
      clear hc hp hc2 hp2 cr cr2
      generalize rs[k] = r at *
      have K : Hid (∀ W, Pts W A' r → Pts W A'' r → Calls Try.prog 52 #[.slice A' r.length cap', .slice A'' r.length cap''] W fun e w' => e = .returned (.bool true) ∧ Below W.heap.size W w') := Lib.hid (fun W hW hW2 => by
        have := c_equalPoints A' A'' cap' cap'' r r W hW hW2 (by omega) (by omega)
        rw [decide_eq_true (rfl : r = r)] at this
        exact this)
      subst hA hA2
      have cr := Cr.out
      have cr2 := Cr2.out
      go_wp2_with fail
      refine wp_region_calm [0,1,2,3,4,5,6,7,8,9] [] (by kernel_rfl) (by kernel_rfl) ?_
      (refine calm_yes rfl rfl (fun w' hC => (by have cr := hC.cell cr; have cr2 := hC.cell cr2; go_simp; rfl)) (fun K hK => ?_); go_simp; refine hK _ ?_; clear hK K)
      (refine calm_yes rfl rfl (fun w' hC => (by have cr := hC.cell cr; have cr2 := hC.cell cr2; go_simp; rfl)) (fun K hK => ?_); go_simp; refine hK _ ?_; clear hK K)
      (refine calm_yes rfl rfl (fun w' hC => (by have cr := hC.cell cr; have cr2 := hC.cell cr2; go_simp; rfl)) (fun K hK => ?_); go_simp; refine hK _ ?_; clear hK K)
      (refine calm_yes rfl rfl (fun w' hC => (by have cr := hC.cell cr; have cr2 := hC.cell cr2; go_simp; rfl)) (fun K hK => ?_); go_simp; refine hK _ ?_; clear hK K)
      (refine calm_yes rfl rfl (fun w' hC => (by have cr := hC.cell cr; have cr2 := hC.cell cr2; go_simp; rfl)) (fun K hK => ?_); go_simp; refine hK _ ?_; clear hK K)
      (refine calm_yes rfl rfl (fun w' hC => (by have cr := hC.cell cr; have cr2 := hC.cell cr2; go_simp; rfl)) (fun K hK => ?_); go_simp; refine hK _ ?_; clear hK K)
      (refine calm_yes rfl rfl (fun w' hC => (by have cr := hC.cell cr; have cr2 := hC.cell cr2; go_simp; rfl)) (fun K hK => ?_); go_simp; refine hK _ ?_; clear hK K)
      (refine calm_yes rfl rfl (fun w' hC => (by have cr := hC.cell cr; have cr2 := hC.cell cr2; go_simp; rfl)) (fun K hK => ?_); go_simp; refine hK _ ?_; clear hK K)
      (apply calm_call rfl rfl rfl Try.func52 (by kernel_rfl) rfl (by go_simp; rfl); exact (fun w' hC => K.out w' (P1.out.ext ptR_stab (ext_cls hC)) (P2.out.ext ptR_stab (ext_cls hC))); intro K hK; go_simp; refine hK _ ?_; clear hK K)
      (refine calm_yes rfl rfl (fun w' hC => (by have cr := hC.cell cr; have cr2 := hC.cell cr2; go_simp; rfl)) (fun K hK => ?_); go_simp; refine hK _ ?_; clear hK K)
      refine calm_done (fun w1 hb => ?_)
      clear cr cr2
      replace E := Lib.hid (Ext.trans E.out hb)
      replace P1 := Lib.hid (P1.out.ext ptR_stab hb)
      replace P2 := Lib.hid (P2.out.ext ptR_stab hb)
      replace Cr := Lib.hid (Cls.cell hb Cr.out)
      replace Cr2 := Lib.hid (Cls.cell hb Cr2.out)
      clear hb
      have cCr := Cr.out
      have cCr2 := Cr2.out
      go_wp2
      go_roundw
      case rel => exact ⟨k + 1, by omega, by go_num, E.out⟩
      case measure => simp [intOf]; omega
    · have hk' : ¬ ((k : Int) < (rs.length : Int)) := by omega
      go_wp2
      go_ret
      exact ⟨rfl, E.out⟩
end Go.Proofs.Ytjiikjkaadfalaa
