/-
  What is inside polygons: the program's walk.
-/
import Derived.Test.YtnclnmciaehgeaaWindI
import Derived.Test.YtnclnmciaehgeaaWindS
namespace Go.Proofs.Ytnclnmciaehgeaa
open Go Go.RowKit Reg
attribute [local go_sem] calmAt calmUpon
def insideL (n rule : Int) : Bool := if rule = 1 then n.tmod 2 != 0 else n != 0
def insA (rs : List Rg) (rule x y : Int) : Bool := rgsB rs && (rule == 0 || rule == 1) && inB x (-1000) 1000 && inB y (-1000) 1000 && insideL (windL rs x y) rule
theorem wind_bd (rs : List Rg) (h : rgsB rs = true) (x y : Int) : -320 ≤ windL rs x y ∧ windL rs x y ≤ 320 := by
  have hr := rgsB_iff.1 h
  have := sumS_bd (f := stepL x y) (rs := rs) (B := 40) (fun r hq => by have := sumE_bd40 (f := stepL x y) (B := 1) (fun a _ b _ => stepL_bd x y a b) (by omega) (hr.1 r hq).2; omega) (by omega) (k := rs.length) hr.2.1
  rw [List.take_length] at this
  unfold windL; omega
set_option maxHeartbeats 1000000 in
theorem c_inside (n rule : Int) (w : World) (hn : -1000000 ≤ n ∧ n ≤ 1000000) : Calls Try.prog 96 #[.int .i64 n, .int .i64 rule] w fun e w' => e = .returned (.bool (insideL n rule)) ∧ w = w' := by
  obtain ⟨h1, h2⟩ := hn
  by_cases hr : rule = 1
  · have hb : (rule == 1) = true := by simpa using hr
    have hi : insideL n rule = (n.tmod 2 != 0) := by unfold insideL; rw [if_pos hr]
    rw [hi]
    clear hi hr
    go_enter Try.func96, Try.ntmps96
    go_wp2
    go_ret
    exact ⟨rfl, rfl⟩
  · have hb : (rule == 1) = false := by simpa using hr
    have hi : insideL n rule = (n != 0) := by unfold insideL; rw [if_neg hr]
    rw [hi]
    clear hi hr
    go_enter Try.func96, Try.ntmps96
    go_wp2
    go_ret
    exact ⟨rfl, rfl⟩
set_option maxHeartbeats 1000000 in
theorem c_isRuleA (rule : Int) (w : World) : Calls Try.prog 95 #[.int .i64 rule] w fun e w' => e = .returned (.bool (rule == 0 || rule == 1)) ∧ w = w' := by
  obtain ⟨b0, h0⟩ : ∃ b, (rule == 0) = b := ⟨_, rfl⟩
  obtain ⟨b1, h1⟩ : ∃ b, (rule == 1) = b := ⟨_, rfl⟩
  rw [h0, h1]
  cases b0
  all_goals
    cases b1
    all_goals
      go_enter Try.func95, Try.ntmps95
      go_wp2
      go_ret
      exact ⟨rfl, rfl⟩
set_option maxRecDepth 100000 in
set_option maxHeartbeats 2000000 in
theorem c_InsideAt (A : Option Addr) (cap : Nat) (rs : List Rg) (rule x y : Int) (w : World) (h : Rgs w A rs) (hl : rs.length ≤ 1000000000) (hs : ∀ r ∈ rs, r.length ≤ 1000000000) :
    Calls Try.prog 46 #[.slice A rs.length cap, .int .i64 rule, .int .i64 x, .int .i64 y] w fun e w' => e = .returned (.bool (insA rs rule x y)) ∧ Below w.heap.size w w' := by
  have K0 := Lib.hid (c_iValidRings A cap rs w h hl hs)
  have H := Lib.hid h
  have E := Lib.hid (Below.refl w.heap.size w)
  obtain ⟨S, hS⟩ : ∃ S, insA rs rule x y = S := ⟨_, rfl⟩
  rw [hS]
  obtain ⟨d1, hd1⟩ : ∃ d, rgsB rs = d := ⟨_, rfl⟩
  obtain ⟨d2, hd2⟩ : ∃ d, (rule == 0 || rule == 1) = d := ⟨_, rfl⟩
  obtain ⟨d3, hd3⟩ : ∃ d, inB x (-1000) 1000 = d := ⟨_, rfl⟩
  obtain ⟨d4, hd4⟩ : ∃ d, inB y (-1000) 1000 = d := ⟨_, rfl⟩
  have HS : Hid ((d1 && d2 && d3 && d4 && insideL (windL rs x y) rule) = S) := Lib.hid (by rw [← hS]; unfold insA; rw [hd1, hd2, hd3, hd4])
  have H1 := Lib.hid hd1
  have H2 := Lib.hid hd2
  have H3 := Lib.hid hd3
  have H4 := Lib.hid hd4
  clear h hl hs hS hd1 hd2 hd3 hd4
  go_enter Try.func46, Try.ntmps46
  go_wp2_with fail
  refine (K0.out).mono ?_
  rw [H1.out]
  rintro e w1 ⟨rfl, hb⟩
  replace E := Lib.hid (Ext.trans E.out hb)
  replace H := Lib.hid (H.out.ext rgR_stab hb)
  clear hb
  cases d1
  · have Hf : Hid (S = false) := Lib.hid (by rw [← HS.out]; rfl)
    go_wp2
    go_ret
    exact ⟨by rw [Hf.out]; rfl, E.out⟩
  · go_wp2_with fail
    refine (c_isRuleA rule _).mono ?_
    rw [H2.out]
    rintro e w' ⟨rfl, rfl⟩
    cases d2
    · have Hf : Hid (S = false) := Lib.hid (by rw [← HS.out]; rfl)
      go_wp2
      go_ret
      exact ⟨by rw [Hf.out]; rfl, E.out⟩
    · go_wp2_with fail
      refine (c_isUnit x _).mono ?_
      rw [H3.out]
      rintro e w' ⟨rfl, rfl⟩
      cases d3
      · have Hf : Hid (S = false) := Lib.hid (by rw [← HS.out]; rfl)
        go_wp2
        go_ret
        exact ⟨by rw [Hf.out]; rfl, E.out⟩
      · go_wp2_with fail
        refine (c_isUnit y _).mono ?_
        rw [H4.out]
        rintro e w' ⟨rfl, rfl⟩
        cases d4
        · have Hf : Hid (S = false) := Lib.hid (by rw [← HS.out]; rfl)
          go_wp2
          go_ret
          exact ⟨by rw [Hf.out]; rfl, E.out⟩
        · have hx := inB_iff.1 H3.out
          have hy := inB_iff.1 H4.out
          have HX := Lib.hid hx
          have HY := Lib.hid hy
          clear hx hy
          go_wp2_with fail
          refine (c_iwinding A cap rs x y _ H.out H1.out (by have := HX.out; omega) (by have := HY.out; omega)).mono ?_
          rintro e w2 ⟨rfl, hb⟩
          replace E := Lib.hid (Ext.trans E.out hb)
          replace H := Lib.hid (H.out.ext rgR_stab hb)
          clear hb
          have hbd := wind_bd rs H1.out x y
          have Hf : Hid (insideL (windL rs x y) rule = S) := Lib.hid (by rw [← HS.out]; rfl)
          generalize windL rs x y = n at *
          go_wp2_with fail
          refine (c_inside n rule _ (by omega)).mono ?_
          rw [Hf.out]
          rintro e w' ⟨rfl, rfl⟩
          go_wp2
          go_ret
          exact ⟨rfl, E.out⟩
end Go.Proofs.Ytnclnmciaehgeaa
