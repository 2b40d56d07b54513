/-
  Windings at points, and backdrops: the walks.
-/
import Derived.Test.YteankmkhieckbaaWindS
import Derived.Test.YteankmkhieckbaaWindI
namespace Go.Proofs.Yteankmkhieckbaa
open Go Go.RowKit Reg
attribute [local go_sem] calmAt calmUpon
def backR (rs : List Rg) (c r : Int) : Int := if rgsB rs && inB c 0 12 && inB r 0 47 then windL rs (16 * c - 1) (4 * r + 2) else 0
set_option maxHeartbeats 1000000 in
theorem c_sampleAt (n : Int) (w : World) (h : -1000 ≤ n ∧ n ≤ 1000) : Calls Try.prog 66 #[.int .i64 n] w fun e w' => e = .returned (.int .i64 (4 * n + 2)) ∧ w = w' := by
  obtain ⟨h1, h2⟩ := h
  go_enter Try.func66, Try.ntmps66
  go_wp2
  go_ret
  exact ⟨ret_i (by omega), rfl⟩
set_option maxHeartbeats 1000000 in
theorem c_isRow (n : Int) (w : World) : Calls Try.prog 65 #[.int .i64 n] w fun e w' => e = .returned (.bool (inB n 0 47)) ∧ w = w' := by
  go_enter Try.func65, Try.ntmps65
  go_wp2_with fail
  refine (c_in n 0 47 _).mono ?_
  rintro e w' ⟨rfl, rfl⟩
  go_wp2
  go_ret
  exact ⟨rfl, rfl⟩
set_option maxHeartbeats 1000000 in
theorem c_backdrop (A : Option Addr) (cap : Nat) (rs : List Rg) (c y : Int) (w : World) (h : Rgs w A rs) (hv : rgsB rs = true) (hx : -100 ≤ c ∧ c ≤ 100) (hy : -2000 ≤ y ∧ y ≤ 2000) :
    Calls Try.prog 67 #[.slice A rs.length cap, .int .i64 c, .int .i64 y] w fun e w' => e = .returned (.int .i64 (windL rs (16 * c - 1) y)) ∧ Below w.heap.size w w' := by
  have K := Lib.hid (c_swinding A cap rs (16 * c - 1) y w h hv (by omega) hy)
  obtain ⟨h1, h2⟩ := hx
  clear h hv hy
  go_enter Try.func67, Try.ntmps67
  go_wp2_with fail
  refine K.out.mono ?_
  rintro e w' ⟨rfl, hb⟩
  have E := Lib.hid hb
  clear hb
  go_wp2
  go_ret
  exact ⟨rfl, E.out⟩
set_option maxRecDepth 100000 in
set_option maxHeartbeats 4000000 in
theorem c_iWindingAt (A : Option Addr) (cap : Nat) (rs : List Rg) (x y : Int) (w : World) (h : Rgs w A rs) (hl : rs.length ≤ 1000000000) (hs : ∀ r ∈ rs, r.length ≤ 1000000000) :
    Calls Try.prog 33 #[.slice A rs.length cap, .int .i64 x, .int .i64 y] w fun e w' => e = .returned (.int .i64 (windR rs x y)) ∧ Below w.heap.size w w' := by
  have K0 := Lib.hid (c_iValidRings A cap rs w h hl hs)
  have H := Lib.hid h
  clear h hs
  obtain ⟨S, hS⟩ : ∃ S, windR rs x y = S := ⟨_, rfl⟩
  rw [hS]
  obtain ⟨d1, hd1⟩ : ∃ d, rgsB rs = d := ⟨_, rfl⟩
  obtain ⟨d2, hd2⟩ : ∃ d, inB x (-1000) 1000 = d := ⟨_, rfl⟩
  obtain ⟨d3, hd3⟩ : ∃ d, inB y (-1000) 1000 = d := ⟨_, rfl⟩
  have HS : Hid (S = if (d1 && d2 && d3) = true then windL rs x y else 0) := Lib.hid (by rw [← hS]; unfold windR; rw [hd1, hd2, hd3])
  rw [hd1] at K0
  have H1 := Lib.hid hd1
  have H2 := Lib.hid hd2
  have H3 := Lib.hid hd3
  have E := Lib.hid (Below.refl w.heap.size w)
  clear hS hd1 hd2 hd3
  go_enter Try.func33, Try.ntmps33
  go_wp2_with fail
  refine (K0.out).mono ?_
  rintro e w1 ⟨rfl, hb⟩
  replace E := Lib.hid (Ext.trans E.out hb)
  replace H := Lib.hid (H.out.ext rgR_stab hb)
  clear hb
  cases d1
  · have Hf : Hid (S = 0) := Lib.hid (by rw [HS.out]; rfl)
    go_wp2
    go_ret
    exact ⟨ret_i (by rw [Hf.out]), E.out⟩
  · go_wp2_with fail
    refine (c_isUnit x _).mono ?_
    rw [H2.out]
    rintro e w' ⟨rfl, rfl⟩
    cases d2
    · have Hf : Hid (S = 0) := Lib.hid (by rw [HS.out]; rfl)
      go_wp2
      go_ret
      exact ⟨ret_i (by rw [Hf.out]), E.out⟩
    · go_wp2_with fail
      refine (c_isUnit y _).mono ?_
      rw [H3.out]
      rintro e w' ⟨rfl, rfl⟩
      cases d3
      · have Hf : Hid (S = 0) := Lib.hid (by rw [HS.out]; rfl)
        go_wp2
        go_ret
        exact ⟨ret_i (by rw [Hf.out]), E.out⟩
      · have Hf : Hid (windL rs x y = S) := Lib.hid (by rw [HS.out]; rfl)
        go_wp2_with fail
        refine (c_iwinding A cap rs x y _ H.out H1.out (by have := inB_iff.1 H2.out; omega) (by have := inB_iff.1 H3.out; omega)).mono ?_
        rw [Hf.out]
        rintro e w2 ⟨rfl, hb⟩
        replace E := Lib.hid (Ext.trans E.out hb)
        replace H := Lib.hid (H.out.ext rgR_stab hb)
        clear hb
        go_wp2
        go_ret
        exact ⟨rfl, E.out⟩
set_option maxRecDepth 100000 in
set_option maxHeartbeats 4000000 in
theorem c_sWindingAt (A : Option Addr) (cap : Nat) (rs : List Rg) (x y : Int) (w : World) (h : Rgs w A rs) (hl : rs.length ≤ 1000000000) (hs : ∀ r ∈ rs, r.length ≤ 1000000000) :
    Calls Try.prog 34 #[.slice A rs.length cap, .int .i64 x, .int .i64 y] w fun e w' => e = .returned (.int .i64 (windR rs x y)) ∧ Below w.heap.size w w' := by
  have K0 := Lib.hid (c_sValidRings A cap rs w h hl hs)
  have H := Lib.hid h
  clear h hs
  obtain ⟨S, hS⟩ : ∃ S, windR rs x y = S := ⟨_, rfl⟩
  rw [hS]
  obtain ⟨d1, hd1⟩ : ∃ d, rgsB rs = d := ⟨_, rfl⟩
  obtain ⟨d2, hd2⟩ : ∃ d, vpB (x, y) = d := ⟨_, rfl⟩
  have HS : Hid (S = if (d1 && d2) = true then windL rs x y else 0) := Lib.hid (by rw [← hS]; unfold windR; rw [← hd1, ← hd2]; simp [vpB, Bool.and_assoc])
  rw [hd1] at K0
  have H1 := Lib.hid hd1
  have H2 := Lib.hid hd2
  have E := Lib.hid (Below.refl w.heap.size w)
  clear hS hd1 hd2
  go_enter Try.func34, Try.ntmps34
  go_wp2_with fail
  refine (K0.out).mono ?_
  rintro e w1 ⟨rfl, hb⟩
  replace E := Lib.hid (Ext.trans E.out hb)
  replace H := Lib.hid (H.out.ext rgR_stab hb)
  clear hb
  cases d1
  · have Hf : Hid (S = 0) := Lib.hid (by rw [HS.out]; rfl)
    go_wp2
    go_ret
    exact ⟨ret_i (by rw [Hf.out]), E.out⟩
  · go_wp2_with fail
    refine (c_validPoint (x, y) _).mono ?_
    rw [H2.out]
    rintro e w2 ⟨rfl, hb⟩
    replace E := Lib.hid (Ext.trans E.out hb)
    replace H := Lib.hid (H.out.ext rgR_stab hb)
    clear hb
    cases d2
    · have Hf : Hid (S = 0) := Lib.hid (by rw [HS.out]; rfl)
      go_wp2
      go_ret
      exact ⟨ret_i (by rw [Hf.out]), E.out⟩
    · have Hf : Hid (windL rs x y = S) := Lib.hid (by rw [HS.out]; rfl)
      go_wp2_with fail
      refine (c_swinding A cap rs x y _ H.out H1.out (by have := vpB_iff.1 H2.out; dsimp only at this; omega) (by have := vpB_iff.1 H2.out; dsimp only at this; omega)).mono ?_
      rw [Hf.out]
      rintro e w3 ⟨rfl, hb⟩
      replace E := Lib.hid (Ext.trans E.out hb)
      replace H := Lib.hid (H.out.ext rgR_stab hb)
      clear hb
      go_wp2
      go_ret
      exact ⟨rfl, E.out⟩
set_option maxRecDepth 100000 in
set_option maxHeartbeats 4000000 in
theorem c_iBackdropOf (A : Option Addr) (cap : Nat) (rs : List Rg) (c r : Int) (w : World) (h : Rgs w A rs) (hl : rs.length ≤ 1000000000) (hs : ∀ r ∈ rs, r.length ≤ 1000000000) :
    Calls Try.prog 37 #[.slice A rs.length cap, .int .i64 c, .int .i64 r] w fun e w' => e = .returned (.int .i64 (backR rs c r)) ∧ Below w.heap.size w w' := by
  have K0 := Lib.hid (c_iValidRings A cap rs w h hl hs)
  have H := Lib.hid h
  clear h hs
  obtain ⟨S, hS⟩ : ∃ S, backR rs c r = S := ⟨_, rfl⟩
  rw [hS]
  obtain ⟨d1, hd1⟩ : ∃ d, rgsB rs = d := ⟨_, rfl⟩
  obtain ⟨d2, hd2⟩ : ∃ d, inB c 0 12 = d := ⟨_, rfl⟩
  obtain ⟨d3, hd3⟩ : ∃ d, inB r 0 47 = d := ⟨_, rfl⟩
  have HS : Hid (S = if (d1 && d2 && d3) = true then windL rs (16 * c - 1) (4 * r + 2) else 0) := Lib.hid (by rw [← hS]; unfold backR; rw [hd1, hd2, hd3])
  rw [hd1] at K0
  have H1 := Lib.hid hd1
  have H2 := Lib.hid hd2
  have H3 := Lib.hid hd3
  have E := Lib.hid (Below.refl w.heap.size w)
  clear hS hd1 hd2 hd3
  go_enter Try.func37, Try.ntmps37
  go_wp2_with fail
  refine (K0.out).mono ?_
  rintro e w1 ⟨rfl, hb⟩
  replace E := Lib.hid (Ext.trans E.out hb)
  replace H := Lib.hid (H.out.ext rgR_stab hb)
  clear hb
  cases d1
  · have Hf : Hid (S = 0) := Lib.hid (by rw [HS.out]; rfl)
    go_wp2
    go_ret
    exact ⟨ret_i (by rw [Hf.out]), E.out⟩
  · go_wp2_with fail
    refine (c_in c 0 12 _).mono ?_
    rw [H2.out]
    rintro e w' ⟨rfl, rfl⟩
    cases d2
    · have Hf : Hid (S = 0) := Lib.hid (by rw [HS.out]; rfl)
      go_wp2
      go_ret
      exact ⟨ret_i (by rw [Hf.out]), E.out⟩
    · go_wp2_with fail
      refine (c_isRow r _).mono ?_
      rw [H3.out]
      rintro e w' ⟨rfl, rfl⟩
      cases d3
      · have Hf : Hid (S = 0) := Lib.hid (by rw [HS.out]; rfl)
        go_wp2
        go_ret
        exact ⟨ret_i (by rw [Hf.out]), E.out⟩
      · have Hf : Hid (windL rs (16 * c - 1) (4 * r + 2) = S) := Lib.hid (by rw [HS.out]; rfl)
        obtain ⟨i1, i2⟩ := inB_iff.1 H2.out
        obtain ⟨i3, i4⟩ := inB_iff.1 H3.out
        go_wp2_with fail
        refine (c_sampleAt r _ (by omega)).mono ?_
        rintro e w' ⟨rfl, rfl⟩
        go_wp2_with fail
        refine (c_iwinding A cap rs (16 * c - 1) (4 * r + 2) _ H.out H1.out (by omega) (by omega)).mono ?_
        rw [Hf.out]
        rintro e w2 ⟨rfl, hb⟩
        replace E := Lib.hid (Ext.trans E.out hb)
        replace H := Lib.hid (H.out.ext rgR_stab hb)
        clear hb
        go_wp2
        go_ret
        exact ⟨rfl, E.out⟩
set_option maxRecDepth 100000 in
set_option maxHeartbeats 4000000 in
theorem c_sBackdropOf (A : Option Addr) (cap : Nat) (rs : List Rg) (c r : Int) (w : World) (h : Rgs w A rs) (hl : rs.length ≤ 1000000000) (hs : ∀ r ∈ rs, r.length ≤ 1000000000) :
    Calls Try.prog 38 #[.slice A rs.length cap, .int .i64 c, .int .i64 r] w fun e w' => e = .returned (.int .i64 (backR rs c r)) ∧ Below w.heap.size w w' := by
  have K0 := Lib.hid (c_sValidRings A cap rs w h hl hs)
  have H := Lib.hid h
  clear h hs
  obtain ⟨S, hS⟩ : ∃ S, backR rs c r = S := ⟨_, rfl⟩
  rw [hS]
  obtain ⟨d1, hd1⟩ : ∃ d, rgsB rs = d := ⟨_, rfl⟩
  obtain ⟨d2, hd2⟩ : ∃ d, inB c 0 12 = d := ⟨_, rfl⟩
  obtain ⟨d3, hd3⟩ : ∃ d, inB r 0 47 = d := ⟨_, rfl⟩
  have HS : Hid (S = if (d1 && d2 && d3) = true then windL rs (16 * c - 1) (4 * r + 2) else 0) := Lib.hid (by rw [← hS]; unfold backR; rw [hd1, hd2, hd3])
  rw [hd1] at K0
  have H1 := Lib.hid hd1
  have H2 := Lib.hid hd2
  have H3 := Lib.hid hd3
  have E := Lib.hid (Below.refl w.heap.size w)
  clear hS hd1 hd2 hd3
  go_enter Try.func38, Try.ntmps38
  go_wp2_with fail
  refine (K0.out).mono ?_
  rintro e w1 ⟨rfl, hb⟩
  replace E := Lib.hid (Ext.trans E.out hb)
  replace H := Lib.hid (H.out.ext rgR_stab hb)
  clear hb
  cases d1
  · have Hf : Hid (S = 0) := Lib.hid (by rw [HS.out]; rfl)
    go_wp2
    go_ret
    exact ⟨ret_i (by rw [Hf.out]), E.out⟩
  · go_wp2_with fail
    refine (c_inRange c 0 12 _).mono ?_
    rw [H2.out]
    rintro e w' ⟨rfl, rfl⟩
    cases d2
    · have Hf : Hid (S = 0) := Lib.hid (by rw [HS.out]; rfl)
      go_wp2
      go_ret
      exact ⟨ret_i (by rw [Hf.out]), E.out⟩
    · go_wp2_with fail
      refine (c_inRange r 0 47 _).mono ?_
      rw [H3.out]
      rintro e w' ⟨rfl, rfl⟩
      cases d3
      · have Hf : Hid (S = 0) := Lib.hid (by rw [HS.out]; rfl)
        go_wp2
        go_ret
        exact ⟨ret_i (by rw [Hf.out]), E.out⟩
      · have Hf : Hid (windL rs (16 * c - 1) (4 * r + 2) = S) := Lib.hid (by rw [HS.out]; rfl)
        obtain ⟨i1, i2⟩ := inB_iff.1 H2.out
        obtain ⟨i3, i4⟩ := inB_iff.1 H3.out
        skip
        go_wp2_with fail
        refine (c_backdrop A cap rs c (4 * r + 2) _ H.out H1.out (by omega) (by omega)).mono ?_
        rw [Hf.out]
        rintro e w2 ⟨rfl, hb⟩
        replace E := Lib.hid (Ext.trans E.out hb)
        replace H := Lib.hid (H.out.ext rgR_stab hb)
        clear hb
        go_wp2
        go_ret
        exact ⟨rfl, E.out⟩
end Go.Proofs.Yteankmkhieckbaa
