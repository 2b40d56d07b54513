/-
  The area of any path: both walks.
-/
import Derived.Test.YtalicpgnjpgloaaRingsO
import Derived.Test.YtalicpgnjpgloaaMg17
import Derived.Test.YtalicpgnjpgloaaAreaS
namespace Go.Proofs.Ytalicpgnjpgloaa
open Go Go.RowKit Reg
attribute [local go_sem] calmAt calmUpon
theorem areaR_nil : areaR [] = 0 := by decide
set_option maxRecDepth 100000 in
set_option maxHeartbeats 2000000 in
theorem c_iPathArea (A : Option Addr) (cap : Nat) (vs : List Vb) (w : World) (h : VbK w A vs) (hl : vs.length ≤ 1000000000) (hs : ∀ v ∈ vs, v.2.length ≤ 1000000000) :
    Calls Try.prog 16 #[.slice A vs.length cap] w fun e w' => e = .returned (.int .i64 (areaR (ringsV vs))) ∧ Below w.heap.size w w' := by
  have K := Lib.hid (c_iRingsOf A cap vs w h hl hs)
  have h1 := (ringsV_ok vs).2.2
  have Hl := Lib.hid (ringsV_len vs)
  have E := Lib.hid (Below.refl w.heap.size w)
  clear h hl hs
  generalize ringsV vs = S at *
  obtain ⟨a, ha⟩ : ∃ a, areaR S = a := ⟨_, rfl⟩
  rw [ha]
  have Ha := Lib.hid ha
  clear ha
  go_enter Try.func16, Try.ntmps16
  go_wp2_with fail
  refine (K.out).mono ?_
  rintro e w1 ⟨A1, cap1, ss, rfl, ho, hb⟩
  replace E := Lib.hid (Ext.trans E.out hb)
  clear hb
  have R1 := Lib.hid (ho.in_)
  clear ho
  go_wp2_with fail
  refine (c_iAreaOf A1 cap1 S w1 R1.out (by omega) (fun r hr => by have := Hl.out r hr; omega)).mono ?_
  rw [Ha.out]
  rintro e w2 ⟨rfl, hb⟩
  replace E := Lib.hid (Ext.trans E.out hb)
  replace R1 := Lib.hid (R1.out.ext rgR_stab hb)
  clear hb
  go_wp2
  go_ret
  exact ⟨rfl, E.out⟩
end Go.Proofs.Ytalicpgnjpgloaa
