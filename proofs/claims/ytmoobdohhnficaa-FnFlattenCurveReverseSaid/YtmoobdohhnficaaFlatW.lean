/-
  FlattenCurve: the program's walk.
-/
import Derived.Test.YtmoobdohhnficaaFlatI
import Derived.Test.YtmoobdohhnficaaFlatV
import Derived.Test.YtmoobdohhnficaaPts
namespace Go.Proofs.Ytmoobdohhnficaa
open Go Go.RowKit Reg
attribute [local go_sem] calmAt calmUpon
def curveB (c : List Pt) : Bool := inB (c.length : Int) 2 4 && psB c
def flatB (c : List Pt) (lim d : Int) : Bool := curveB c && inB lim 0 1000 && inB d 0 4
def flatR (c : List Pt) (lim d : Int) : List Pt := if flatB c lim d then flatI lim d.toNat c else []
theorem flatR_yes {c : List Pt} {lim d : Int} (h : flatB c lim d = true) : flatR c lim d = flatI lim d.toNat c := by simp [flatR, h]
theorem flatR_no {c : List Pt} {lim d : Int} (h : flatB c lim d = false) : flatR c lim d = [] := by simp [flatR, h]
theorem flatB_rev (c : List Pt) (lim d : Int) : flatB c.reverse lim d = flatB c lim d := by simp [flatB, curveB, psB]
theorem curveB_facts {c : List Pt} (h : curveB c = true) : (2 ≤ c.length ∧ c.length ≤ 4) ∧ VpAll c := by
  unfold curveB psB at h
  simp only [Bool.and_eq_true, inB_iff, List.all_eq_true] at h
  exact ⟨by omega, fun p hp => h.2.1 p hp⟩
theorem flatR_rev (c : List Pt) (lim d : Int) : flatR c.reverse lim d = (flatR c lim d).reverse := by
  cases hb : flatB c lim d with
  | false => rw [flatR_no hb, flatR_no (by rw [flatB_rev]; exact hb)]; rfl
  | true =>
    have hc : curveB c = true := by unfold flatB at hb; simp only [Bool.and_eq_true] at hb; exact hb.1.1
    rw [flatR_yes hb, flatR_yes (by rw [flatB_rev]; exact hb), flatI_rev _ _ _ (by have := (curveB_facts hc).1; omega)]
theorem flatR_len (c : List Pt) (lim d : Int) : (flatR c lim d).length ≤ 17 := by
  cases hb : flatB c lim d with
  | false => rw [flatR_no hb]; simp
  | true =>
    rw [flatR_yes hb, flatI_len]
    have h := (flatL_len lim d.toNat c).2
    unfold flatB at hb
    simp only [Bool.and_eq_true, inB_iff] at hb
    have h2 : d.toNat ≤ 4 := by omega
    have h3 : 2 ^ d.toNat ≤ 2 ^ 4 := Nat.pow_le_pow_right (by omega) h2
    omega
/-- Points returned in a row of their own. -/
def RetP (w : World) (R : List Pt) (e : Ending) (w' : World) : Prop := ∃ A' cap', e = .returned (.slice A' R.length cap') ∧ Has w' w.heap.size 44 2 (.slice A' R.length cap') R.length (R.flatMap ptC) ∧ Below w.heap.size w w'
theorem retP_nil {w w' : World} (h : Below w.heap.size w w') : RetP w [] (.returned (.slice none 0 0)) w' := ⟨none, 0, rfl, own_nil _ _ _ _, h⟩
set_option maxHeartbeats 1000000 in
theorem c_curveValid (A : Option Addr) (cap : Nat) (c : List Pt) (w : World) (h : Pts w A c) (hl : c.length ≤ 1000000) :
    Calls Try.prog 20 #[.slice A c.length cap] w fun e w' => e = .returned (.bool (curveB c)) ∧ Below w.heap.size w w' := by
  have K := Lib.hid (c_pointsValid A cap c w h (by omega))
  have E := Lib.hid (Below.refl w.heap.size w)
  obtain ⟨S, hS⟩ : ∃ S, curveB c = S := ⟨_, rfl⟩
  rw [hS]
  obtain ⟨d1, hd1⟩ : ∃ d, inB (c.length : Int) 2 4 = d := ⟨_, rfl⟩
  obtain ⟨d2, hd2⟩ : ∃ d, psB c = d := ⟨_, rfl⟩
  have HS : Hid ((d1 && d2) = S) := Lib.hid (by rw [← hS]; unfold curveB; rw [hd1, hd2])
  have H1 := Lib.hid hd1
  have H2 := Lib.hid hd2
  clear h hS hd1 hd2
  go_enter Try.func20, Try.ntmps20
  go_wp2_with fail
  refine (c_in (c.length : Int) 2 4 _).mono ?_
  rw [H1.out]
  rintro e w' ⟨rfl, rfl⟩
  cases d1
  · have Hf : Hid (S = false) := Lib.hid (by rw [← HS.out]; rfl)
    go_wp2
    go_ret
    exact ⟨by rw [Hf.out]; rfl, E.out⟩
  · go_wp2_with fail
    refine (K.out).mono ?_
    rw [H2.out]
    rintro e w1 ⟨rfl, hb⟩
    replace E := Lib.hid (Ext.trans E.out hb)
    clear hb
    have Hf : Hid (S = d2) := Lib.hid (by rw [← HS.out]; rfl)
    go_wp2
    go_ret
    exact ⟨by rw [Hf.out]; rfl, E.out⟩
set_option maxRecDepth 100000 in
set_option maxHeartbeats 2000000 in
theorem c_iFlattenCurve (A : Option Addr) (cap : Nat) (c : List Pt) (lim d : Int) (w : World) (h : Pts w A c) (hl : c.length ≤ 1000000) :
    Calls Try.prog 9 #[.slice A c.length cap, .int .i64 lim, .int .i64 d] w (RetP w (flatR c lim d)) := by
  have K := Lib.hid (c_curveValid A cap c w h hl)
  have H := Lib.hid h
  have E := Lib.hid (Below.refl w.heap.size w)
  obtain ⟨S, hS⟩ : ∃ S, flatR c lim d = S := ⟨_, rfl⟩
  rw [hS]
  obtain ⟨d1, hd1⟩ : ∃ d, curveB c = d := ⟨_, rfl⟩
  obtain ⟨d2, hd2⟩ : ∃ d, inB lim 0 1000 = d := ⟨_, rfl⟩
  obtain ⟨d3, hd3⟩ : ∃ e, inB d 0 4 = e := ⟨_, rfl⟩
  have HB : Hid (flatB c lim d = (d1 && d2 && d3)) := Lib.hid (by unfold flatB; rw [hd1, hd2, hd3])
  have HS := Lib.hid hS
  have H1 := Lib.hid hd1
  have H2 := Lib.hid hd2
  have H3 := Lib.hid hd3
  clear h hS hd1 hd2 hd3
  go_enter Try.func9, Try.ntmps9
  go_wp2_with fail
  refine (K.out).mono ?_
  rw [H1.out]
  rintro e w1 ⟨rfl, hb⟩
  replace E := Lib.hid (Ext.trans E.out hb)
  replace H := Lib.hid (H.out.ext ptR_stab hb)
  clear hb
  cases d1
  · have Hf : Hid (S = []) := Lib.hid (by rw [← HS.out]; exact flatR_no (by rw [HB.out]; rfl))
    go_wp2
    go_ret
    rw [Hf.out]
    exact retP_nil E.out
  · go_wp2_with fail
    refine (c_in lim 0 1000 _).mono ?_
    rw [H2.out]
    rintro e w' ⟨rfl, rfl⟩
    cases d2
    · have Hf : Hid (S = []) := Lib.hid (by rw [← HS.out]; exact flatR_no (by rw [HB.out]; rfl))
      go_wp2
      go_ret
      rw [Hf.out]
      exact retP_nil E.out
    · go_wp2_with fail
      refine (c_in d 0 4 _).mono ?_
      rw [H3.out]
      rintro e w' ⟨rfl, rfl⟩
      cases d3
      · have Hf : Hid (S = []) := Lib.hid (by rw [← HS.out]; exact flatR_no (by rw [HB.out]; rfl))
        go_wp2
        go_ret
        rw [Hf.out]
        exact retP_nil E.out
      · have hd := inB_iff.1 H3.out
        obtain ⟨n, rfl⟩ : ∃ n : Nat, d = (n : Int) := ⟨d.toNat, by omega⟩
        have Hf : Hid (flatI lim n c = S) := Lib.hid (by rw [← HS.out, flatR_yes (by rw [HB.out]; rfl)]; rfl)
        have hl17 : S.length ≤ 17 := by rw [← HS.out]; exact flatR_len c lim n
        obtain ⟨⟨q1, q2⟩, q3⟩ := curveB_facts H1.out
        have Q3 := Lib.hid q3
        have hz := E.out.size
        clear q3
        go_wp2_with fail
        refine (c_iflatten lim n A cap c _ H.out Q3.out (by omega) (by omega) (by omega)).mono ?_
        rw [Hf.out]
        rintro e w2 ⟨A2, cap2, rfl, ho2, hb⟩
        replace E := Lib.hid (Ext.trans E.out hb)
        replace H := Lib.hid (H.out.ext ptR_stab hb)
        clear hb
        have O2 := Lib.hid (ho2)
        clear ho2
        go_wp2_with fail
        refine (c_clone_ei_pt A2 S.length cap2 (S.flatMap ptC) w2 (O2.out.src (flat_one S)) O2.out.slok (by omega)).mono ?_
        rintro e w3 ⟨A3, rfl, _, ho3, hb3⟩
        have O3 := Lib.hid (ho3.rebase E.out.size)
        have E3 := Lib.hid (Ext.trans E.out hb3)
        clear ho3 hb3
        go_wp2
        go_ret
        exact ⟨A3, S.length, rfl, O3.out, E3.out⟩
end Go.Proofs.Ytmoobdohhnficaa
