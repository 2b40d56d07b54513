/-
  Several texts in one: FillV, Scene.
-/
import Derived.Test.YtagmnbphbakikaaGreatMg10
import Derived.Test.YtagmnbphbakikaaGreatRingsI
import Derived.Test.YtagmnbphbakikaaGreatRingsS
import Derived.Test.YtagmnbphbakikaaGreatPath
import Derived.Test.YtagmnbphbakikaaGreatPath2
namespace Go.Proofs.YtagmnbphbakikaaGreat
open Go Go.RowKit Reg
attribute [local go_sem] calmAt calmUpon
def flB (x : FlD) : Bool := pathOk x.1 && rgsB (ringsL x.1) && inB x.2.1 0 1 && paB x.2.2.1 x.2.2.2.1 x.2.2.2.2
def sizeB (a b : Int) : Bool := inB a 1 12 && inB b 1 12
def scB (W H : Int) (fs : List FlD) : Bool := sizeB W H && decide (fs.length ≤ 4) && fs.all flB
theorem corners_memF {rs : List Rg} {r : Rg} (h : r ∈ rs) : r.length ≤ corners rs := by
  unfold corners
  induction rs with
  | nil => cases h
  | cons a rs ih =>
    rcases List.mem_cons.1 h with rfl | h
    · simp
    · have := ih h; simp only [List.map_cons, List.sum_cons]; omega
set_option maxHeartbeats 1000000 in
theorem c_isRuleF (n : Int) (w : World) : Calls Tryz.prog 118 #[.int .i64 n] w fun e w' => e = .returned (.bool (inB n 0 1)) ∧ w = w' := by
  by_cases h0 : n = 0
  · subst h0
    go_enter Tryz.func118, Tryz.ntmps118
    go_wp2
    go_ret
    exact ⟨ret_bb (by simp [inB]), rfl⟩
  · by_cases h1 : n = 1
    · subst h1
      go_enter Tryz.func118, Tryz.ntmps118
      go_wp2
      go_ret
      exact ⟨ret_bb (by simp [inB]), rfl⟩
    · have e0 : (n == 0) = false := by simp [h0]
      have e1 : (n == 1) = false := by simp [h1]
      have e : Hid (inB n 0 1 = false) := Lib.hid (by simp [inB]; omega)
      clear h0 h1
      go_enter Tryz.func118, Tryz.ntmps118
      go_wp2
      go_ret
      exact ⟨ret_bb (by rw [e.out]), rfl⟩
set_option maxHeartbeats 1000000 in
theorem c_validSizeF (a b : Int) (w : World) : Calls Tryz.prog 64 #[.int .i64 a, .int .i64 b] w fun e w' => e = .returned (.bool (sizeB a b)) ∧ w = w' := by
  unfold sizeB
  obtain ⟨d1, hd1⟩ : ∃ d, inB a 1 12 = d := ⟨_, rfl⟩
  have H1 := Lib.hid hd1
  rw [hd1]
  clear hd1
  go_enter Tryz.func64, Tryz.ntmps64
  go_wp2_with fail
  refine (c_inRange a 1 12 _).mono ?_
  rw [H1.out]
  rintro e w' ⟨rfl, rfl⟩
  cases d1
  · go_wp2
    go_ret
    exact ⟨rfl, rfl⟩
  · go_wp2_with fail
    refine (c_inRange b 1 12 _).mono ?_
    rintro e w' ⟨rfl, rfl⟩
    go_wp2
    go_ret
    exact ⟨rfl, rfl⟩
set_option maxHeartbeats 1000000 in
theorem c_sizedF (a b : Int) (w : World) : Calls Tryz.prog 92 #[.int .i64 a, .int .i64 b] w fun e w' => e = .returned (.bool (sizeB a b)) ∧ w = w' := by
  unfold sizeB
  obtain ⟨d1, hd1⟩ : ∃ d, inB a 1 12 = d := ⟨_, rfl⟩
  have H1 := Lib.hid hd1
  rw [hd1]
  clear hd1
  go_enter Tryz.func92, Tryz.ntmps92
  go_wp2_with fail
  refine (c_in a 1 12 _).mono ?_
  rw [H1.out]
  rintro e w' ⟨rfl, rfl⟩
  cases d1
  · go_wp2
    go_ret
    exact ⟨rfl, rfl⟩
  · go_wp2_with fail
    refine (c_in b 1 12 _).mono ?_
    rintro e w' ⟨rfl, rfl⟩
    go_wp2
    go_ret
    exact ⟨rfl, rfl⟩
theorem c_sringsK (A : Option Addr) (cap : Nat) (vs : List Vb) (w : World) (h : VbK w A vs) (hv : pathOk vs = true) :
    Calls Tryz.prog 67 #[.slice A vs.length cap] w (RetRg w (ringsL vs)) := c_srings A cap vs w h.toV hv
set_option maxRecDepth 100000 in
set_option maxHeartbeats 4000000 in
theorem c_iFillValid (A1 : Option Addr) (c1 : Nat) (x : FlD) (A2 : Option Addr) (c2 : Nat) (w : World) (hv : VbK w A1 x.1) (hs : Sts w A2 x.2.2.2.2) (hsm : flSm x) :
    Calls Tryz.prog 78 #[flV A1 x.1.length c1 x.2.1 x.2.2.1 x.2.2.2.1 A2 x.2.2.2.2.length c2] w fun e w' => e = .returned (.bool (flB x)) ∧ Below w.heap.size w w' := by
  obtain ⟨vs, q, f, t, ss⟩ := x
  obtain ⟨fx, fy⟩ := f
  obtain ⟨tx, ty⟩ := t
  obtain ⟨m1, _, m3, m4⟩ := hsm
  dsimp only at m1 m3 m4 hv hs
  obtain ⟨d1, hd1⟩ : ∃ d, pathOk vs = d := ⟨_, rfl⟩
  obtain ⟨S, hS⟩ : ∃ S, ringsL vs = S := ⟨_, rfl⟩
  obtain ⟨d2, hd2⟩ : ∃ d, rgsB S = d := ⟨_, rfl⟩
  obtain ⟨d3, hd3⟩ : ∃ d, inB q 0 1 = d := ⟨_, rfl⟩
  obtain ⟨d4, hd4⟩ : ∃ d, paB (fx, fy) (tx, ty) ss = d := ⟨_, rfl⟩
  have HR : Hid (flB (vs, q, (fx, fy), (tx, ty), ss) = (d1 && d2 && d3 && d4)) := Lib.hid (by unfold flB; dsimp only; rw [hd1, hS, hd2, hd3, hd4])
  rw [HR.out]
  have H1 := Lib.hid hd1
  have HS := Lib.hid hS
  have H2 := Lib.hid hd2
  have H3 := Lib.hid hd3
  have H4 := Lib.hid hd4
  have H := Lib.hid hv
  have P := Lib.hid hs
  have E := Lib.hid (Below.refl w.heap.size w)
  have M3 : Hid (∀ v ∈ vs, v.2.length ≤ 1000000000) := Lib.hid (fun v hv => by have := m3 v hv; omega)
  have hl : vs.length ≤ 1000000000 := by omega
  have hl4 : ss.length ≤ 1000000000 := by omega
  clear hd1 hS hd2 hd3 hd4 hv hs m3 HR
  go_enter Tryz.func78, Tryz.ntmps78
  go_wp2_with fail
  first | refine gen_calls ?_ | refine gen_code ?_ | refine gen_list ?_
  intro w0 hW
  obtain ⟨hb, hR0⟩ := new1 hW
  clear hW
  replace E := Lib.hid (Ext.trans E.out hb)
  replace H := Lib.hid (H.out.ext verbK_stab hb)
  replace P := Lib.hid (P.out.ext stR_stab hb)
  clear hb
  have R0 := Lib.hid hR0
  have lR0 := R0.out.lt
  clear hR0
  have k0 := R0.out.cell_of (i := 0) rfl
  have k1 := R0.out.cell_of (i := 1) rfl
  have k2 := R0.out.cell_of (i := 2) rfl
  have k3 := R0.out.cell_of (i := 3) rfl
  have k4 := R0.out.cell_of (i := 4) rfl
  have k5 := R0.out.cell_of (i := 5) rfl
  have k6 := R0.out.cell_of (i := 6) rfl
  go_wp2_with fail
  clear k0 k1 k2 k3 k4 k5 k6
  refine (c_iValidPath A1 c1 vs _ H.out.toV hl M3.out).mono ?_
  rw [H1.out]
  rintro e w1 ⟨rfl, hb⟩
  replace E := Lib.hid (Ext.trans E.out hb)
  replace H := Lib.hid (H.out.ext verbK_stab hb)
  replace P := Lib.hid (P.out.ext stR_stab hb)
  replace R0 := Lib.hid (R0.out.ext hb)
  have lR0 := R0.out.lt
  clear hb
  have k0 := R0.out.cell_of (i := 0) rfl
  have k1 := R0.out.cell_of (i := 1) rfl
  have k2 := R0.out.cell_of (i := 2) rfl
  have k3 := R0.out.cell_of (i := 3) rfl
  have k4 := R0.out.cell_of (i := 4) rfl
  have k5 := R0.out.cell_of (i := 5) rfl
  have k6 := R0.out.cell_of (i := 6) rfl
  cases d1
  · go_wp2
    go_ret
    exact ⟨rfl, E.out⟩
  · obtain ⟨_, ok2, ok3⟩ := ringsL_ok H1.out
    rw [HS.out] at ok2 ok3
    have Hm : Hid (∀ r ∈ S, r.length ≤ 1000000000) := Lib.hid (fun r hr => by have := corners_memF hr; omega)
    clear ok2
    go_wp2_with fail
    clear k0 k1 k2 k3 k4 k5 k6
    refine (c_irings A1 c1 vs _ H.out H1.out).mono ?_
    rw [HS.out]
    rintro e w2 ⟨A3, cap3, ss3, rfl, ho3, hb⟩
    replace E := Lib.hid (Ext.trans E.out hb)
    replace H := Lib.hid (H.out.ext verbK_stab hb)
    replace P := Lib.hid (P.out.ext stR_stab hb)
    replace R0 := Lib.hid (R0.out.ext hb)
    have lR0 := R0.out.lt
    clear hb
    have Q := Lib.hid (ho3.in_)
    have k0 := R0.out.cell_of (i := 0) rfl
    have k1 := R0.out.cell_of (i := 1) rfl
    have k2 := R0.out.cell_of (i := 2) rfl
    have k3 := R0.out.cell_of (i := 3) rfl
    have k4 := R0.out.cell_of (i := 4) rfl
    have k5 := R0.out.cell_of (i := 5) rfl
    have k6 := R0.out.cell_of (i := 6) rfl
    clear ho3
    go_wp2_with fail
    clear k0 k1 k2 k3 k4 k5 k6
    refine (c_iValidRings A3 cap3 S _ Q.out (by omega) Hm.out).mono ?_
    rw [H2.out]
    rintro e w3 ⟨rfl, hb⟩
    replace E := Lib.hid (Ext.trans E.out hb)
    replace H := Lib.hid (H.out.ext verbK_stab hb)
    replace P := Lib.hid (P.out.ext stR_stab hb)
    replace R0 := Lib.hid (R0.out.ext hb)
    have lR0 := R0.out.lt
    replace Q := Lib.hid (Q.out.ext rgR_stab hb)
    clear hb
    have k0 := R0.out.cell_of (i := 0) rfl
    have k1 := R0.out.cell_of (i := 1) rfl
    have k2 := R0.out.cell_of (i := 2) rfl
    have k3 := R0.out.cell_of (i := 3) rfl
    have k4 := R0.out.cell_of (i := 4) rfl
    have k5 := R0.out.cell_of (i := 5) rfl
    have k6 := R0.out.cell_of (i := 6) rfl
    cases d2
    · go_wp2
      go_ret
      exact ⟨rfl, E.out⟩
    · go_wp2_with fail
      refine (c_isRuleF q _).mono ?_
      rw [H3.out]
      rintro e w' ⟨rfl, rfl⟩
      cases d3
      · go_wp2
        go_ret
        exact ⟨rfl, E.out⟩
      · go_wp2_with fail
        clear k0 k1 k2 k3 k4 k5 k6
        refine (c_iPaintValid (fx, fy) (tx, ty) A2 c2 ss _ P.out hl4).mono ?_
        rw [H4.out]
        rintro e w4 ⟨rfl, hb⟩
        replace E := Lib.hid (Ext.trans E.out hb)
        replace H := Lib.hid (H.out.ext verbK_stab hb)
        replace P := Lib.hid (P.out.ext stR_stab hb)
        replace R0 := Lib.hid (R0.out.ext hb)
        have lR0 := R0.out.lt
        replace Q := Lib.hid (Q.out.ext rgR_stab hb)
        clear hb
        have k0 := R0.out.cell_of (i := 0) rfl
        have k1 := R0.out.cell_of (i := 1) rfl
        have k2 := R0.out.cell_of (i := 2) rfl
        have k3 := R0.out.cell_of (i := 3) rfl
        have k4 := R0.out.cell_of (i := 4) rfl
        have k5 := R0.out.cell_of (i := 5) rfl
        have k6 := R0.out.cell_of (i := 6) rfl
        go_wp2
        go_ret
        exact ⟨rfl, E.out⟩
set_option maxRecDepth 100000 in
set_option maxHeartbeats 4000000 in
theorem c_sFillValid (A1 : Option Addr) (c1 : Nat) (x : FlD) (A2 : Option Addr) (c2 : Nat) (w : World) (hv : VbK w A1 x.1) (hs : Sts w A2 x.2.2.2.2) (hsm : flSm x) :
    Calls Tryz.prog 29 #[flV A1 x.1.length c1 x.2.1 x.2.2.1 x.2.2.2.1 A2 x.2.2.2.2.length c2] w fun e w' => e = .returned (.bool (flB x)) ∧ Below w.heap.size w w' := by
  obtain ⟨vs, q, f, t, ss⟩ := x
  obtain ⟨fx, fy⟩ := f
  obtain ⟨tx, ty⟩ := t
  obtain ⟨m1, _, m3, m4⟩ := hsm
  dsimp only at m1 m3 m4 hv hs
  obtain ⟨d1, hd1⟩ : ∃ d, pathOk vs = d := ⟨_, rfl⟩
  obtain ⟨S, hS⟩ : ∃ S, ringsL vs = S := ⟨_, rfl⟩
  obtain ⟨d2, hd2⟩ : ∃ d, rgsB S = d := ⟨_, rfl⟩
  obtain ⟨d3, hd3⟩ : ∃ d, inB q 0 1 = d := ⟨_, rfl⟩
  obtain ⟨d4, hd4⟩ : ∃ d, paB (fx, fy) (tx, ty) ss = d := ⟨_, rfl⟩
  have HR : Hid (flB (vs, q, (fx, fy), (tx, ty), ss) = (d1 && d2 && d3 && d4)) := Lib.hid (by unfold flB; dsimp only; rw [hd1, hS, hd2, hd3, hd4])
  rw [HR.out]
  have H1 := Lib.hid hd1
  have HS := Lib.hid hS
  have H2 := Lib.hid hd2
  have H3 := Lib.hid hd3
  have H4 := Lib.hid hd4
  have H := Lib.hid hv
  have P := Lib.hid hs
  have E := Lib.hid (Below.refl w.heap.size w)
  have M3 : Hid (∀ v ∈ vs, v.2.length ≤ 1000000000) := Lib.hid (fun v hv => by have := m3 v hv; omega)
  have hl : vs.length ≤ 1000000000 := by omega
  have hl4 : ss.length ≤ 1000000000 := by omega
  clear hd1 hS hd2 hd3 hd4 hv hs m3 HR
  go_enter Tryz.func29, Tryz.ntmps29
  go_wp2_with fail
  first | refine gen_calls ?_ | refine gen_code ?_ | refine gen_list ?_
  intro w0 hW
  obtain ⟨hb, hR0⟩ := new1 hW
  clear hW
  replace E := Lib.hid (Ext.trans E.out hb)
  replace H := Lib.hid (H.out.ext verbK_stab hb)
  replace P := Lib.hid (P.out.ext stR_stab hb)
  clear hb
  have R0 := Lib.hid hR0
  have lR0 := R0.out.lt
  clear hR0
  have k0 := R0.out.cell_of (i := 0) rfl
  have k1 := R0.out.cell_of (i := 1) rfl
  have k2 := R0.out.cell_of (i := 2) rfl
  have k3 := R0.out.cell_of (i := 3) rfl
  have k4 := R0.out.cell_of (i := 4) rfl
  have k5 := R0.out.cell_of (i := 5) rfl
  have k6 := R0.out.cell_of (i := 6) rfl
  go_wp2_with fail
  clear k0 k1 k2 k3 k4 k5 k6
  refine (c_sValidPath A1 c1 vs _ H.out.toV hl M3.out).mono ?_
  rw [H1.out]
  rintro e w1 ⟨rfl, hb⟩
  replace E := Lib.hid (Ext.trans E.out hb)
  replace H := Lib.hid (H.out.ext verbK_stab hb)
  replace P := Lib.hid (P.out.ext stR_stab hb)
  replace R0 := Lib.hid (R0.out.ext hb)
  have lR0 := R0.out.lt
  clear hb
  have k0 := R0.out.cell_of (i := 0) rfl
  have k1 := R0.out.cell_of (i := 1) rfl
  have k2 := R0.out.cell_of (i := 2) rfl
  have k3 := R0.out.cell_of (i := 3) rfl
  have k4 := R0.out.cell_of (i := 4) rfl
  have k5 := R0.out.cell_of (i := 5) rfl
  have k6 := R0.out.cell_of (i := 6) rfl
  cases d1
  · go_wp2
    go_ret
    exact ⟨rfl, E.out⟩
  · obtain ⟨_, ok2, ok3⟩ := ringsL_ok H1.out
    rw [HS.out] at ok2 ok3
    have Hm : Hid (∀ r ∈ S, r.length ≤ 1000000000) := Lib.hid (fun r hr => by have := corners_memF hr; omega)
    clear ok2
    go_wp2_with fail
    clear k0 k1 k2 k3 k4 k5 k6
    refine (c_sringsK A1 c1 vs _ H.out H1.out).mono ?_
    rw [HS.out]
    rintro e w2 ⟨A3, cap3, ss3, rfl, ho3, hb⟩
    replace E := Lib.hid (Ext.trans E.out hb)
    replace H := Lib.hid (H.out.ext verbK_stab hb)
    replace P := Lib.hid (P.out.ext stR_stab hb)
    replace R0 := Lib.hid (R0.out.ext hb)
    have lR0 := R0.out.lt
    clear hb
    have Q := Lib.hid (ho3.in_)
    have k0 := R0.out.cell_of (i := 0) rfl
    have k1 := R0.out.cell_of (i := 1) rfl
    have k2 := R0.out.cell_of (i := 2) rfl
    have k3 := R0.out.cell_of (i := 3) rfl
    have k4 := R0.out.cell_of (i := 4) rfl
    have k5 := R0.out.cell_of (i := 5) rfl
    have k6 := R0.out.cell_of (i := 6) rfl
    clear ho3
    go_wp2_with fail
    clear k0 k1 k2 k3 k4 k5 k6
    refine (c_sValidRings A3 cap3 S _ Q.out (by omega) Hm.out).mono ?_
    rw [H2.out]
    rintro e w3 ⟨rfl, hb⟩
    replace E := Lib.hid (Ext.trans E.out hb)
    replace H := Lib.hid (H.out.ext verbK_stab hb)
    replace P := Lib.hid (P.out.ext stR_stab hb)
    replace R0 := Lib.hid (R0.out.ext hb)
    have lR0 := R0.out.lt
    replace Q := Lib.hid (Q.out.ext rgR_stab hb)
    clear hb
    have k0 := R0.out.cell_of (i := 0) rfl
    have k1 := R0.out.cell_of (i := 1) rfl
    have k2 := R0.out.cell_of (i := 2) rfl
    have k3 := R0.out.cell_of (i := 3) rfl
    have k4 := R0.out.cell_of (i := 4) rfl
    have k5 := R0.out.cell_of (i := 5) rfl
    have k6 := R0.out.cell_of (i := 6) rfl
    cases d2
    · go_wp2
      go_ret
      exact ⟨rfl, E.out⟩
    · go_wp2_with fail
      refine (c_inRange q 0 1 _).mono ?_
      rw [H3.out]
      rintro e w' ⟨rfl, rfl⟩
      cases d3
      · go_wp2
        go_ret
        exact ⟨rfl, E.out⟩
      · go_wp2_with fail
        clear k0 k1 k2 k3 k4 k5 k6
        refine (c_sPaintValid (fx, fy) (tx, ty) A2 c2 ss _ P.out hl4).mono ?_
        rw [H4.out]
        rintro e w4 ⟨rfl, hb⟩
        replace E := Lib.hid (Ext.trans E.out hb)
        replace H := Lib.hid (H.out.ext verbK_stab hb)
        replace P := Lib.hid (P.out.ext stR_stab hb)
        replace R0 := Lib.hid (R0.out.ext hb)
        have lR0 := R0.out.lt
        replace Q := Lib.hid (Q.out.ext rgR_stab hb)
        clear hb
        have k0 := R0.out.cell_of (i := 0) rfl
        have k1 := R0.out.cell_of (i := 1) rfl
        have k2 := R0.out.cell_of (i := 2) rfl
        have k3 := R0.out.cell_of (i := 3) rfl
        have k4 := R0.out.cell_of (i := 4) rfl
        have k5 := R0.out.cell_of (i := 5) rfl
        have k6 := R0.out.cell_of (i := 6) rfl
        go_wp2
        go_ret
        exact ⟨rfl, E.out⟩
end Go.Proofs.YtagmnbphbakikaaGreat
namespace Go.Proofs.YtagmnbphbakikaaGreat
open Go Go.RowKit Reg
attribute [local go_sem] calmAt calmUpon
set_option maxRecDepth 100000 in
set_option maxHeartbeats 4000000 in
theorem c_vs1 (A1 : Option Addr) (c1 : Nat) (x : FlD) (A2 : Option Addr) (c2 : Nat) (w : World) (hv : VbK w A1 x.1) (hs : Sts w A2 x.2.2.2.2) (hsm : flSm x) :
    Calls Tryz.prog 94 #[flV A1 x.1.length c1 x.2.1 x.2.2.1 x.2.2.2.1 A2 x.2.2.2.2.length c2] w fun e w' => e = .returned (.bool (!flB x)) ∧ Below w.heap.size w w' := by
  have H := Lib.hid hv
  have P := Lib.hid hs
  have E := Lib.hid (Below.refl w.heap.size w)
  clear hv hs
  go_enter Tryz.func94, Tryz.ntmps94
  go_wp2_with fail
  first | refine gen_calls ?_ | refine gen_code ?_ | refine gen_list ?_
  intro w0 hW
  obtain ⟨hb, hR0⟩ := new1 hW
  clear hW
  replace E := Lib.hid (Ext.trans E.out hb)
  replace H := Lib.hid (H.out.ext verbK_stab hb)
  replace P := Lib.hid (P.out.ext stR_stab hb)
  clear hb
  have R0 := Lib.hid hR0
  have lR0 := R0.out.lt
  clear hR0
  have k0 := R0.out.cell_of (i := 0) rfl
  have k1 := R0.out.cell_of (i := 1) rfl
  have k2 := R0.out.cell_of (i := 2) rfl
  have k3 := R0.out.cell_of (i := 3) rfl
  have k4 := R0.out.cell_of (i := 4) rfl
  have k5 := R0.out.cell_of (i := 5) rfl
  have k6 := R0.out.cell_of (i := 6) rfl
  go_wp2_with fail
  clear k0 k1 k2 k3 k4 k5 k6
  refine (c_iFillValid A1 c1 x A2 c2 _ H.out P.out hsm).mono ?_
  rintro e w1 ⟨rfl, hb⟩
  replace E := Lib.hid (Ext.trans E.out hb)
  replace H := Lib.hid (H.out.ext verbK_stab hb)
  replace P := Lib.hid (P.out.ext stR_stab hb)
  replace R0 := Lib.hid (R0.out.ext hb)
  have lR0 := R0.out.lt
  clear hb
  have k0 := R0.out.cell_of (i := 0) rfl
  have k1 := R0.out.cell_of (i := 1) rfl
  have k2 := R0.out.cell_of (i := 2) rfl
  have k3 := R0.out.cell_of (i := 3) rfl
  have k4 := R0.out.cell_of (i := 4) rfl
  have k5 := R0.out.cell_of (i := 5) rfl
  have k6 := R0.out.cell_of (i := 6) rfl
  go_wp2
  go_ret
  exact ⟨rfl, E.out⟩
set_option maxRecDepth 100000 in
set_option maxHeartbeats 4000000 in
theorem c_vsIndex (A : Option Addr) (cap : Nat) (fs : List FlD) (w : World) (h : Fls w A fs) (hsm : flsSm fs) :
    Calls Tryz.prog 136 #[.slice A fs.length cap, .func (.func 94) #[] #[]] w fun e w' => ∃ n : Int, e = .returned (.int .i64 n) ∧ (0 ≤ n ↔ fs.all flB = false) ∧ Below w.heap.size w w' := by
  obtain ⟨hl, hsm2⟩ := hsm
  have H := Lib.hid h
  have Hsm := Lib.hid hsm2
  clear h hsm2
  go_enter Tryz.func136, Tryz.ntmps136
  go_wp2
  go_loopw [5, 8] (fun _ i wr => ∃ k : Nat, k ≤ fs.length ∧ i = .int .i64 k ∧ (fs.take k).all flB = true ∧ Below w.heap.size w wr) (fun _ i _ => fs.length - (intOf i).toNat)
  case atStart => exact ⟨0, Nat.zero_le _, rfl, by simp, Below.refl _ _⟩
  case round =>
    obtain ⟨k, hk, rfl, hal, hbw⟩ := hrel
    have Hal := Lib.hid hal
    have E := Lib.hid hbw
    clear hal hbw
    by_cases hlt : k < fs.length
    · obtain ⟨b, off, hA, _, hc⟩ := (H.out.ext flR_stab E.out).fls (by omega)
      obtain ⟨A1, c1, A2, c2, hp, x0, x1, x2, x3, x4, x5, x6⟩ := hc k hlt
      have KT := Lib.hid (c_vs1 A1 c1 fs[k] A2 c2 wr hp.1 hp.2.2.1 (Hsm.out _ (List.getElem_mem hlt)))
      have Hy : Hid (flB fs[k] = true → (fs.take (k + 1)).all flB = true) := Lib.hid (fun h => all_take_succ Hal.out hlt h)
      have Hno : Hid (flB fs[k] = false → fs.all flB = false) := Lib.hid (fun h => all_false_of hlt h)
      have hkI : (k : Int) < (fs.length : Int) := by omega
      have hkI2 : decide ((k : Int) < (fs.length : Int)) = true := by simp; omega
      obtain ⟨d, hd⟩ : ∃ d, flB fs[k] = d := ⟨_, rfl⟩
      rw [hd] at KT Hy Hno
      clear hc hp hd
      subst hA
      generalize fs[k] = x at *
      go_wp2_with fail
      refine (KT.out).mono ?_
      rintro e w1 ⟨rfl, hb⟩
      replace E := Lib.hid (Ext.trans E.out hb)
      clear hb
      clear x0 x1 x2 x3 x4 x5 x6
      cases d
      · have Hf := Lib.hid (Hno.out rfl)
        go_wp2
        go_ret
        exact ⟨k, rfl, by simp [Hf.out], E.out⟩
      · have Hf := Lib.hid (Hy.out rfl)
        go_wp2
        go_roundw
        case rel => exact ⟨k + 1, by omega, by go_num, Hf.out, E.out⟩
        case measure => simp [intOf]; omega
    · have hk' : k = fs.length := by omega
      have hall := Lib.hid (all_of_take Hal.out hk')
      have hge : decide ((k : Int) < (fs.length : Int)) = false := by simp; omega
      clear hk'
      go_wp2
      go_ret
      exact ⟨-1, rfl, by simp [hall.out], E.out⟩
set_option maxHeartbeats 400000 in
theorem c_vsContains (A : Option Addr) (cap : Nat) (fs : List FlD) (w : World) (h : Fls w A fs) (hsm : flsSm fs) :
    Calls Tryz.prog 93 #[.slice A fs.length cap, .func (.func 94) #[] #[]] w fun e w' => e = .returned (.bool (!fs.all flB)) ∧ Below w.heap.size w w' := by
  go_enter Tryz.func93, Tryz.ntmps93
  go_wp2_with (go_at_call 136; refine (c_vsIndex A cap fs _ h hsm).mono ?_; rintro e w1 ⟨n, rfl, hn, hb1⟩)
  go_ret
  exact ⟨ret_bb (by rw [Bool.eq_iff_iff]; simpa using hn), hb1⟩
abbrev scV (W H : Int) (A : Option Addr) (n cap : Nat) : Value := .agg #[.int .i64 W, .int .i64 H, .slice A n cap]
set_option maxRecDepth 100000 in
set_option maxHeartbeats 4000000 in
theorem c_iValidScene (W H : Int) (A : Option Addr) (cap : Nat) (fs : List FlD) (w : World) (h : Fls w A fs) (hsm : flsSm fs) :
    Calls Tryz.prog 56 #[scV W H A fs.length cap] w fun e w' => e = .returned (.bool (scB W H fs)) ∧ Below w.heap.size w w' := by
  have P := Lib.hid h
  have hl := hsm.1
  have Hsm := Lib.hid hsm
  have E := Lib.hid (Below.refl w.heap.size w)
  obtain ⟨d1, hd1⟩ : ∃ d, sizeB W H = d := ⟨_, rfl⟩
  have HR : Hid (scB W H fs = (d1 && decide (fs.length ≤ 4) && fs.all flB)) := Lib.hid (by unfold scB; rw [hd1])
  rw [HR.out]
  have H1 := Lib.hid hd1
  clear h hsm hd1 HR
  go_enter Tryz.func56, Tryz.ntmps56
  go_wp2_with fail
  first | refine gen_calls ?_ | refine gen_code ?_ | refine gen_list ?_
  intro w0 hW
  obtain ⟨hb, hR0⟩ := new1 hW
  clear hW
  replace E := Lib.hid (Ext.trans E.out hb)
  replace P := Lib.hid (P.out.ext flR_stab hb)
  clear hb
  have R0 := Lib.hid hR0
  have lR0 := R0.out.lt
  clear hR0
  have k0 := R0.out.cell_of (i := 0) rfl
  have k1 := R0.out.cell_of (i := 1) rfl
  have k2 := R0.out.cell_of (i := 2) rfl
  go_wp2_with fail
  refine (c_sizedF W H _).mono ?_
  rw [H1.out]
  rintro e w' ⟨rfl, rfl⟩
  cases d1
  · go_wp2
    go_ret
    exact ⟨rfl, E.out⟩
  · by_cases h4 : fs.length ≤ 4
    · have h4I : decide ((fs.length : Int) ≤ 4) = true := by simp; omega
      have h4N : decide (fs.length ≤ 4) = true := by simp [h4]
      go_wp2_with fail
      clear k0 k1 k2
      refine (c_vsContains A cap fs _ P.out Hsm.out).mono ?_
      rintro e w1 ⟨rfl, hb⟩
      replace E := Lib.hid (Ext.trans E.out hb)
      replace P := Lib.hid (P.out.ext flR_stab hb)
      replace R0 := Lib.hid (R0.out.ext hb)
      have lR0 := R0.out.lt
      clear hb
      have k0 := R0.out.cell_of (i := 0) rfl
      have k1 := R0.out.cell_of (i := 1) rfl
      have k2 := R0.out.cell_of (i := 2) rfl
      go_wp2
      go_ret
      exact ⟨ret_bb (by simp [h4]), E.out⟩
    · have h4I : decide ((fs.length : Int) ≤ 4) = false := by simp; omega
      go_wp2
      go_ret
      exact ⟨ret_bb (by simp [h4]), E.out⟩
set_option maxRecDepth 100000 in
set_option maxHeartbeats 4000000 in
theorem c_sValidScene (W H : Int) (A : Option Addr) (cap : Nat) (fs : List FlD) (w : World) (h : Fls w A fs) (hsm : flsSm fs) :
    Calls Tryz.prog 27 #[.agg #[.int .i64 W, .int .i64 H, .slice A fs.length cap]] w fun e w' => e = .returned (.bool (scB W H fs)) ∧ Below w.heap.size w w' := by
  obtain ⟨hl, hsm2⟩ := hsm
  have P := Lib.hid h
  have PW := Lib.hid h
  have Hsm := Lib.hid hsm2
  have E := Lib.hid (Below.refl w.heap.size w)
  obtain ⟨d1, hd1⟩ : ∃ d, sizeB W H = d := ⟨_, rfl⟩
  have HR : Hid (scB W H fs = (d1 && decide (fs.length ≤ 4) && fs.all flB)) := Lib.hid (by unfold scB; rw [hd1])
  obtain ⟨M, hM⟩ : ∃ M, scB W H fs = M := ⟨_, rfl⟩
  rw [hM] at HR ⊢
  have H1 := Lib.hid hd1
  clear h hsm2 hd1 hM
  go_enter Tryz.func27, Tryz.ntmps27
  go_wp2_with fail
  refine gen_code (fun w0 hW => ?_)
  obtain ⟨hb, hR0⟩ := new1 hW
  have E0 := Lib.hid (Ext.trans E.out hb)
  have R0 := Lib.hid hR0
  clear hW hb hR0
  go_loopw [3] (fun i wr => ∃ k : Nat, k ≤ fs.length ∧ i = .int .i64 k ∧ (fs.take k).all flB = true ∧ Ext w0 wr) (fun i _ => fs.length - (intOf i).toNat)
  case atStart => exact ⟨0, Nat.zero_le _, rfl, by simp, Below.refl _ _⟩
  case round =>
    obtain ⟨k, hk, rfl, hal, hbw⟩ := hrel
    have Hal := Lib.hid hal
    have X := Lib.hid (Ext.trans E0.out hbw)
    have Q := Lib.hid hbw
    have R := Lib.hid (R0.out.ext hbw)
    clear hal hbw
    have c0 := R.out.cell_of (i := 0) rfl
    have c1 := R.out.cell_of (i := 1) rfl
    have c2 := R.out.cell_of (i := 2) rfl
    by_cases hlt : k < fs.length
    · obtain ⟨b, off, hA, _, hc⟩ := (PW.out.ext flR_stab X.out).fls (by omega)
      obtain ⟨A1, cc1, A2, cc2, hp, x0, x1, x2, x3, x4, x5, x6⟩ := hc k hlt
      have KT := Lib.hid (c_sFillValid A1 cc1 fs[k] A2 cc2 wr hp.1 hp.2.2.1 (Hsm.out _ (List.getElem_mem hlt)))
      have Hy : Hid (flB fs[k] = true → (fs.take (k + 1)).all flB = true) := Lib.hid (fun h => all_take_succ Hal.out hlt h)
      have Hno : Hid (flB fs[k] = false → fs.all flB = false) := Lib.hid (fun h => all_false_of hlt h)
      have hkI : (k : Int) < (fs.length : Int) := by omega
      have hkI2 : decide ((k : Int) < (fs.length : Int)) = true := by simp; omega
      obtain ⟨d, hd⟩ : ∃ d, flB fs[k] = d := ⟨_, rfl⟩
      rw [hd] at KT Hy Hno
      clear hc hp hd
      subst hA
      generalize fs[k] = x at *
      go_wp2_with fail
      refine (KT.out).mono ?_
      rintro e w1 ⟨rfl, hb⟩
      replace X := Lib.hid (Ext.trans X.out hb)
      replace Q := Lib.hid (Ext.trans Q.out hb)
      clear hb
      clear x0 x1 x2 x3 x4 x5 x6
      cases d
      · have Hf : Hid (M = false) := Lib.hid (by rw [HR.out, Hno.out rfl]; simp)
        go_wp2
        go_ret
        exact ⟨ret_bb Hf.out.symm, X.out⟩
      · have Hf := Lib.hid (Hy.out rfl)
        go_wp2
        go_roundw
        case rel => exact ⟨k + 1, by omega, by go_num, Hf.out, Q.out⟩
        case measure => simp [intOf]; omega
    · have hk' : k = fs.length := by omega
      have hall := Lib.hid (all_of_take Hal.out hk')
      have hge : decide ((k : Int) < (fs.length : Int)) = false := by simp; omega
      clear hk'
      have m0 := R.out.cell_of (i := 0) rfl
      have m1 := R.out.cell_of (i := 1) rfl
      have m2 := R.out.cell_of (i := 2) rfl
      clear c0 c1 c2
      go_wp2_with fail
      refine (c_validSizeF W H _).mono ?_
      rw [H1.out]
      rintro e w' ⟨rfl, rfl⟩
      cases d1
      · have Hf : Hid (M = false) := Lib.hid (by rw [HR.out]; simp)
        go_wp2
        go_ret
        exact ⟨ret_bb Hf.out.symm, X.out⟩
      · have Hf : Hid (M = decide ((fs.length : Int) ≤ 4)) := Lib.hid (by rw [HR.out, hall.out, Bool.eq_iff_iff]; simp; omega)
        go_wp2
        go_ret
        exact ⟨ret_bb Hf.out.symm, X.out⟩
end Go.Proofs.YtagmnbphbakikaaGreat
