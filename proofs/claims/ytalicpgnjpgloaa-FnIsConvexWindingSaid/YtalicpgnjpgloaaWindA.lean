/-
  Windings at points, and backdrops: the walks.
-/
import Derived.Test.YtalicpgnjpgloaaWindS
import Derived.Test.YtalicpgnjpgloaaWindI
namespace Go.Proofs.Ytalicpgnjpgloaa
open Go Go.RowKit Reg
attribute [local go_sem] calmAt calmUpon
def backR (rs : List Rg) (c r : Int) : Int := if rgsB rs && inB c 0 12 && inB r 0 47 then windL rs (16 * c - 1) (4 * r + 2) else 0
set_option maxRecDepth 100000 in
set_option maxHeartbeats 4000000 in
theorem c_iWindingAt (A : Option Addr) (cap : Nat) (rs : List Rg) (x y : Int) (w : World) (h : Rgs w A rs) (hl : rs.length ≤ 1000000000) (hs : ∀ r ∈ rs, r.length ≤ 1000000000) :
    Calls Try.prog 9 #[.slice A rs.length cap, .int .i64 x, .int .i64 y] w fun e w' => e = .returned (.int .i64 (windR rs x y)) ∧ Below w.heap.size w w' := by
  have K0 := Lib.hid (c_iValidRings A cap rs w h hl hs)
  have H := Lib.hid h
  clear h hs
  obtain ⟨S, hS⟩ : ∃ S, windR rs x y = S := ⟨_, rfl⟩
  rw [hS]
  obtain ⟨d1, hd1⟩ : ∃ d, rgsB rs = d := ⟨_, rfl⟩
  obtain ⟨d2, hd2⟩ : ∃ d, inB x (-1000) 1000 = d := ⟨_, rfl⟩
  obtain ⟨d3, hd3⟩ : ∃ d, inB y (-1000) 1000 = d := ⟨_, rfl⟩
  have HS : Hid (S = if (d1 && d2 && d3) = true then windL rs x y else 0) := Lib.hid (by rw [← hS]; unfold windR; rw [hd1, hd2, hd3])
  rw [hd1] at K0
  have H1 := Lib.hid hd1
  have H2 := Lib.hid hd2
  have H3 := Lib.hid hd3
  have E := Lib.hid (Below.refl w.heap.size w)
  clear hS hd1 hd2 hd3
  go_enter Try.func9, Try.ntmps9
  go_wp2_with fail
  refine (K0.out).mono ?_
  rintro e w1 ⟨rfl, hb⟩
  replace E := Lib.hid (Ext.trans E.out hb)
  replace H := Lib.hid (H.out.ext rgR_stab hb)
  clear hb
  cases d1
  · have Hf : Hid (S = 0) := Lib.hid (by rw [HS.out]; rfl)
    go_wp2
    go_ret
    exact ⟨ret_i (by rw [Hf.out]), E.out⟩
  · go_wp2_with fail
    refine (c_isUnit x _).mono ?_
    rw [H2.out]
    rintro e w' ⟨rfl, rfl⟩
    cases d2
    · have Hf : Hid (S = 0) := Lib.hid (by rw [HS.out]; rfl)
      go_wp2
      go_ret
      exact ⟨ret_i (by rw [Hf.out]), E.out⟩
    · go_wp2_with fail
      refine (c_isUnit y _).mono ?_
      rw [H3.out]
      rintro e w' ⟨rfl, rfl⟩
      cases d3
      · have Hf : Hid (S = 0) := Lib.hid (by rw [HS.out]; rfl)
        go_wp2
        go_ret
        exact ⟨ret_i (by rw [Hf.out]), E.out⟩
      · have Hf : Hid (windL rs x y = S) := Lib.hid (by rw [HS.out]; rfl)
        go_wp2_with fail
        refine (c_iwinding A cap rs x y _ H.out H1.out (by have := inB_iff.1 H2.out; omega) (by have := inB_iff.1 H3.out; omega)).mono ?_
        rw [Hf.out]
        rintro e w2 ⟨rfl, hb⟩
        replace E := Lib.hid (Ext.trans E.out hb)
        replace H := Lib.hid (H.out.ext rgR_stab hb)
        clear hb
        go_wp2
        go_ret
        exact ⟨rfl, E.out⟩
end Go.Proofs.Ytalicpgnjpgloaa
