/-
  The polygons of any path: the program's walk.
-/
import Derived.Test.YtalicpgnjpgloaaRingsI
import Derived.Test.YtalicpgnjpgloaaPath
namespace Go.Proofs.Ytalicpgnjpgloaa
open Go Go.RowKit Reg
attribute [local go_sem] calmAt calmUpon
def ringsV (vs : List Vb) : List Rg := if pathOk vs then ringsL vs else []
theorem ringsV_yes {vs : List Vb} (h : pathOk vs = true) : ringsV vs = ringsL vs := by simp [ringsV, h]
theorem ringsV_no {vs : List Vb} (h : ¬ pathOk vs = true) : ringsV vs = [] := by simp [ringsV, h]
theorem ringsV_ok (vs : List Vb) : (∀ r ∈ ringsV vs, VpAll r ∧ 0 < r.length) ∧ corners (ringsV vs) ≤ 240 ∧ (ringsV vs).length ≤ 31 := by
  by_cases h : pathOk vs = true
  · rw [ringsV_yes h]; exact ringsL_ok h
  · rw [ringsV_no h]; exact ⟨fun r hr => by simp at hr, by simp [corners], by simp⟩
theorem corners_mem {rs : List Rg} {r : Rg} (h : r ∈ rs) : r.length ≤ corners rs := by
  obtain ⟨a, b, rfl⟩ := List.append_of_mem h
  rw [corners_append]
  have : corners (r :: b) = r.length + corners b := by simp [corners]
  omega
theorem ringsV_len (vs : List Vb) : ∀ r ∈ ringsV vs, r.length ≤ 240 := fun r hr => Nat.le_trans (corners_mem hr) (ringsV_ok vs).2.1
set_option maxRecDepth 100000 in
set_option maxHeartbeats 2000000 in
theorem c_iRingsOf (A : Option Addr) (cap : Nat) (vs : List Vb) (w : World) (h : VbK w A vs) (hl : vs.length ≤ 1000000000) (hs : ∀ v ∈ vs, v.2.length ≤ 1000000000) :
    Calls Try.prog 14 #[.slice A vs.length cap] w (RetRg w (ringsV vs)) := by
  have K := Lib.hid (c_iValidPath A cap vs w h.toV hl hs)
  have H := Lib.hid h
  have E := Lib.hid (Below.refl w.heap.size w)
  by_cases hv : pathOk vs = true
  · have Hr := Lib.hid (ringsV_yes hv)
    have Hv := Lib.hid hv
    obtain ⟨S, hS⟩ : ∃ S, ringsV vs = S := ⟨_, rfl⟩
    rw [hS]
    have HS : Hid (ringsL vs = S) := Lib.hid (by rw [← Hr.out, hS])
    clear h hl hs hv hS Hr
    go_enter Try.func14, Try.ntmps14
    go_wp2_with fail
    refine (K.out).mono ?_
    rw [Hv.out]
    rintro e w1 ⟨rfl, hb⟩
    replace E := Lib.hid (Ext.trans E.out hb)
    replace H := Lib.hid (H.out.ext verbK_stab hb)
    clear hb
    go_wp2_with fail
    refine (c_irings A cap vs w1 H.out Hv.out).mono ?_
    rw [HS.out]
    rintro e w2 ⟨A2, cap2, ss, rfl, ho, hb⟩
    have O := Lib.hid (ho.rebase E.out.size)
    have E2 := Lib.hid (Ext.trans E.out hb)
    clear ho hb
    go_wp2
    go_ret
    exact ⟨A2, cap2, ss, rfl, O.out, E2.out⟩
  · have Hv : Hid (pathOk vs = false) := Lib.hid (by simpa using hv)
    have Hr := Lib.hid (ringsV_no hv)
    rw [Hr.out]
    clear h hl hs hv
    go_enter Try.func14, Try.ntmps14
    go_wp2_with fail
    refine (K.out).mono ?_
    rw [Hv.out]
    rintro e w1 ⟨rfl, hb⟩
    replace E := Lib.hid (Ext.trans E.out hb)
    replace H := Lib.hid (H.out.ext verbK_stab hb)
    clear hb
    go_wp2
    go_ret
    exact ⟨none, 0, [], rfl, ORg.nil _ _ _ _, E.out⟩
end Go.Proofs.Ytalicpgnjpgloaa
