/-
  Lists of numbers that are the same are found to be.
-/
import Derived.Test.YtnmnomhoghkdjaaPts
import Derived.Test.YtnmnomhoghkdjaaStep
namespace Go.Proofs.Ytnmnomhoghkdjaa
open Go Go.RowKit Reg
attribute [local go_sem] calmAt calmUpon
set_option maxRecDepth 100000 in
set_option maxHeartbeats 2000000 in
theorem c_equalInts (A1 A2 : Option Addr) (cap1 cap2 : Nat) (ns : List Int) (w : World) (h1 : Ints w A1 ns) (h2 : Ints w A2 ns) (hl : ns.length ≤ 1048576) :
    Calls Try.prog 15 #[.slice A1 ns.length cap1, .slice A2 ns.length cap2] w fun e w' => e = .returned (.bool true) ∧ Below w.heap.size w w' := by
  have H := Lib.hid h1
  have H2 := Lib.hid h2
  clear h1 h2
  go_enter Try.func15, Try.ntmps15
  go_wp2_with fail
  go_loopw [5] (fun i wr => ∃ (k : Nat), k ≤ ns.length ∧ i = .int .i64 k ∧ Ext w wr) (fun i _ => ns.length - (intOf i).toNat)
  case atStart => exact ⟨0, Nat.zero_le _, rfl, Below.refl _ _⟩
  case round =>
    obtain ⟨k, hk, rfl, hbw⟩ := hrel
    have E := Lib.hid hbw
    clear hbw
    by_cases hlt : k < ns.length
    · obtain ⟨b, off, hA, _, hc⟩ := (H.out.ext intR_stab E.out).ints (by omega)
      obtain ⟨b2, off2, hA2, _, hc2⟩ := (H2.out.ext intR_stab E.out).ints (by omega)
      have cr := hc k hlt
      have cr2 := hc2 k hlt
      have hkI : decide ((k : Int) < (ns.length : Int)) = true := by simp; omega
      have hkI2 : (k : Int) < (ns.length : Int) := by omega
      have Cr := Lib.hid cr
      have Cr2 := Lib.hid cr2
      clear hc hc2 cr cr2
      generalize ns[k] = r at *
      subst hA hA2
      have cr := Cr.out
      have cr2 := Cr2.out
      go_wp2_with fail
      refine wp_region_calm [0,1,2,3,4,5,6,7,8] [] (by kernel_rfl) (by kernel_rfl) ?_
      (refine calm_yes rfl rfl (fun w' hC => (by have cr := hC.cell cr; have cr2 := hC.cell cr2; go_simp; rfl)) (fun K hK => ?_); go_simp; refine hK _ ?_; clear hK K)
      (refine calm_yes rfl rfl (fun w' hC => (by have cr := hC.cell cr; have cr2 := hC.cell cr2; go_simp; rfl)) (fun K hK => ?_); go_simp; refine hK _ ?_; clear hK K)
      (refine calm_yes rfl rfl (fun w' hC => (by have cr := hC.cell cr; have cr2 := hC.cell cr2; go_simp; rfl)) (fun K hK => ?_); go_simp; refine hK _ ?_; clear hK K)
      (refine calm_yes rfl rfl (fun w' hC => (by have cr := hC.cell cr; have cr2 := hC.cell cr2; go_simp; rfl)) (fun K hK => ?_); go_simp; refine hK _ ?_; clear hK K)
      (refine calm_yes rfl rfl (fun w' hC => (by have cr := hC.cell cr; have cr2 := hC.cell cr2; go_simp; rfl)) (fun K hK => ?_); go_simp; refine hK _ ?_; clear hK K)
      (refine calm_yes rfl rfl (fun w' hC => (by have cr := hC.cell cr; have cr2 := hC.cell cr2; go_simp; rfl)) (fun K hK => ?_); go_simp; refine hK _ ?_; clear hK K)
      (refine calm_yes rfl rfl (fun w' hC => (by have cr := hC.cell cr; have cr2 := hC.cell cr2; go_simp; rfl)) (fun K hK => ?_); go_simp; refine hK _ ?_; clear hK K)
      (refine calm_yes rfl rfl (fun w' hC => (by have cr := hC.cell cr; have cr2 := hC.cell cr2; go_simp; rfl)) (fun K hK => ?_); go_simp; refine hK _ ?_; clear hK K)
      (refine calm_yes rfl rfl (fun w' hC => (by have cr := hC.cell cr; have cr2 := hC.cell cr2; go_simp; rfl)) (fun K hK => ?_); go_simp; refine hK _ ?_; clear hK K)
      refine calm_done (fun w1 hb => ?_)
      clear cr cr2
      replace E := Lib.hid (Ext.trans E.out hb)
      replace Cr := Lib.hid (Cls.cell hb Cr.out)
      replace Cr2 := Lib.hid (Cls.cell hb Cr2.out)
      clear hb
      have cCr := Cr.out
      have cCr2 := Cr2.out
      go_wp2
      go_roundw
      case rel => exact ⟨k + 1, by omega, by go_num, E.out⟩
      case measure => simp [intOf]; omega
    · have hk' : ¬ ((k : Int) < (ns.length : Int)) := by omega
      go_wp2
      go_ret
      exact ⟨rfl, E.out⟩
end Go.Proofs.Ytnmnomhoghkdjaa
