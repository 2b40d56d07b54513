/-
  The area of any path: both walks.
-/
import Derived.Test.YtnclnmciaehgeaaRingsO
import Derived.Test.YtnclnmciaehgeaaWindI
import Derived.Test.YtnclnmciaehgeaaAreaS
namespace Go.Proofs.Ytnclnmciaehgeaa
open Go Go.RowKit Reg
attribute [local go_sem] calmAt calmUpon
theorem areaR_nil : areaR [] = 0 := by decide
set_option maxRecDepth 100000 in
set_option maxHeartbeats 2000000 in
theorem c_iPathArea (A : Option Addr) (cap : Nat) (vs : List Vb) (w : World) (h : VbK w A vs) (hl : vs.length ≤ 1000000000) (hs : ∀ v ∈ vs, v.2.length ≤ 1000000000) :
    Calls Try.prog 35 #[.slice A vs.length cap] w fun e w' => e = .returned (.int .i64 (areaR (ringsV vs))) ∧ Below w.heap.size w w' := by
  have K := Lib.hid (c_iRingsOf A cap vs w h hl hs)
  have h1 := (ringsV_ok vs).2.2
  have Hl := Lib.hid (ringsV_len vs)
  have E := Lib.hid (Below.refl w.heap.size w)
  clear h hl hs
  generalize ringsV vs = S at *
  obtain ⟨a, ha⟩ : ∃ a, areaR S = a := ⟨_, rfl⟩
  rw [ha]
  have Ha := Lib.hid ha
  clear ha
  go_enter Try.func35, Try.ntmps35
  go_wp2_with fail
  refine (K.out).mono ?_
  rintro e w1 ⟨A1, cap1, ss, rfl, ho, hb⟩
  replace E := Lib.hid (Ext.trans E.out hb)
  clear hb
  have R1 := Lib.hid (ho.in_)
  clear ho
  go_wp2_with fail
  refine (c_iAreaOf A1 cap1 S w1 R1.out (by omega) (fun r hr => by have := Hl.out r hr; omega)).mono ?_
  rw [Ha.out]
  rintro e w2 ⟨rfl, hb⟩
  replace E := Lib.hid (Ext.trans E.out hb)
  replace R1 := Lib.hid (R1.out.ext rgR_stab hb)
  clear hb
  go_wp2
  go_ret
  exact ⟨rfl, E.out⟩
set_option maxRecDepth 100000 in
set_option maxHeartbeats 2000000 in
theorem c_sPathArea (A : Option Addr) (cap : Nat) (vs : List Vb) (w : World) (h : Vbs w A vs) (hl : vs.length ≤ 1000000000) (hs : ∀ v ∈ vs, v.2.length ≤ 1000000000) :
    Calls Try.prog 34 #[.slice A vs.length cap] w fun e w' => e = .returned (.int .i64 (areaR (ringsV vs))) ∧ Below w.heap.size w w' := by
  have K := Lib.hid (c_sValidPath A cap vs w h hl hs)
  have H := Lib.hid h
  have E := Lib.hid (Below.refl w.heap.size w)
  by_cases hv : pathOk vs = true
  · have Hr := Lib.hid (ringsV_yes hv)
    have Hv := Lib.hid hv
    have h1 := (ringsV_ok vs).2.2
    have Hl := Lib.hid (ringsV_len vs)
    obtain ⟨S, hS⟩ : ∃ S, ringsV vs = S := ⟨_, rfl⟩
    rw [hS] at h1 Hl ⊢
    have HS : Hid (ringsL vs = S) := Lib.hid (by rw [← Hr.out, hS])
    obtain ⟨a, ha⟩ : ∃ a, areaR S = a := ⟨_, rfl⟩
    rw [ha]
    have Ha := Lib.hid ha
    clear h hl hs hv hS Hr ha
    go_enter Try.func34, Try.ntmps34
    go_wp2_with fail
    refine (K.out).mono ?_
    rw [Hv.out]
    rintro e w1 ⟨rfl, hb⟩
    replace E := Lib.hid (Ext.trans E.out hb)
    replace H := Lib.hid (H.out.ext verbR_stab hb)
    clear hb
    go_wp2_with fail
    refine (c_srings A cap vs w1 H.out Hv.out).mono ?_
    rw [HS.out]
    rintro e w2 ⟨A2, cap2, ss, rfl, ho, hb⟩
    replace E := Lib.hid (Ext.trans E.out hb)
    replace H := Lib.hid (H.out.ext verbR_stab hb)
    clear hb
    have R1 := Lib.hid (ho.in_)
    clear ho
    go_wp2_with fail
    refine (c_sAreaOf A2 cap2 S w2 R1.out (by omega) (fun r hr => by have := Hl.out r hr; omega)).mono ?_
    rw [Ha.out]
    rintro e w3 ⟨rfl, hb⟩
    replace E := Lib.hid (Ext.trans E.out hb)
    replace H := Lib.hid (H.out.ext verbR_stab hb)
    replace R1 := Lib.hid (R1.out.ext rgR_stab hb)
    clear hb
    go_wp2
    go_ret
    exact ⟨rfl, E.out⟩
  · have Hv : Hid (pathOk vs = false) := Lib.hid (by simpa using hv)
    have Hr := Lib.hid (ringsV_no hv)
    rw [Hr.out, areaR_nil]
    clear h hl hs hv
    go_enter Try.func34, Try.ntmps34
    go_wp2_with fail
    refine (K.out).mono ?_
    rw [Hv.out]
    rintro e w1 ⟨rfl, hb⟩
    replace E := Lib.hid (Ext.trans E.out hb)
    replace H := Lib.hid (H.out.ext verbR_stab hb)
    clear hb
    go_wp2
    go_ret
    exact ⟨rfl, E.out⟩
end Go.Proofs.Ytnclnmciaehgeaa
