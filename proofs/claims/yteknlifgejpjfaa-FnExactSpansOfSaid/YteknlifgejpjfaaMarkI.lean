/-
  Numbers compared, marked, and marks looked for; polygons marked.
-/
import Derived.Test.YteknlifgejpjfaaPtSS
import Derived.Test.YteknlifgejpjfaaMark
import Derived.Test.YteknlifgejpjfaaStep
namespace Go.Proofs.Yteknlifgejpjfaa
open Go Go.RowKit Reg
attribute [local go_sem] calmAt calmUpon
theorem intC_len (n : Int) : (intC n).length = 1 := rfl
theorem Row.keptI {w w' : World} {b g : Nat} {e : TypeId} {cs : List Value} (h : Row w b e cs) (hg : w.grownBy w' (some g)) (hne : b ≠ g) : Row w' b e cs := (hg.block b h.lt (fun hh => hne (by cases hh; rfl))).trans h
/-- Rows of one's own of another type are kept. -/
def KeptI (w w' : World) : Prop := ∀ B e sz v n xs, e ≠ 58 → Has w B e sz v n xs → Has w' B e sz v n xs
set_option maxRecDepth 100000 in
set_option maxHeartbeats 2000000 in
theorem c_markPointSS (B b : Nat) (rs : List Rg) (us : List Value) (w : World) (hC : Copd w b 58 42 rs us) (hu : us.length = rs.length) (hl : rs.length ≤ 1048576) (hc : corners rs ≤ 1048576) (hB : B ≤ b) :
    Calls Try.prog 11 #[.slice (some ⟨b, 0, none⟩) rs.length rs.length, .int .i64 1] w fun e w' => ∃ m : Int, e = .returned (.int .i64 m) ∧ 0 ≤ m ∧ Below B w w' ∧ KeptI w w' := by
  have hbw0 := hC.row.lt
  have Hu := Lib.hid hu
  have ND := Lib.hid hC.nd
  have Hc : Hid (∀ k, corners (rs.take k) ≤ 1048576) := Lib.hid (fun k => by
    have := corners_append (rs.take k) (rs.drop k)
    rw [List.take_append_drop] at this; omega)
  have hrow : Row w b 42 us := by have := hC.row; rw [hu, Nat.sub_self] at this; simpa using this
  have R0 := Lib.hid hrow
  have I0 : Hid (∀ (i : Nat) (hi : i < rs.length), ∃ g, us[i]'(by rw [Hu.out]; exact hi) = .slice (some ⟨g, 0, none⟩) rs[i].length rs[i].length ∧ b < g ∧ Row w g 58 (rs[i].flatMap ptC)) := Lib.hid (fun i hi => hC.inn i (by omega))
  clear hC hu hrow
  go_enter Try.func11, Try.ntmps11
  go_wp2_with fail
  go_loopw [1, 5] (fun kk i wr => ∃ (k : Nat), k ≤ rs.length ∧ i = .int .i64 k ∧ kk = .int .i64 (1 + 2 * (corners (rs.take k) : Nat)) ∧ Row wr b 42 us ∧
    (∀ (i : Nat) (hi : i < rs.length), k ≤ i → ∃ g, us[i]'(by rw [Hu.out]; exact hi) = .slice (some ⟨g, 0, none⟩) rs[i].length rs[i].length ∧ b < g ∧ Row wr g 58 (rs[i].flatMap ptC)) ∧ Below B w wr ∧ KeptI w wr) (fun _ i _ => rs.length - (intOf i).toNat)
  case atStart => exact ⟨0, Nat.zero_le _, rfl, by simp [corners], R0.out, fun i hi _ => I0.out i hi, Below.refl _ _, fun _ _ _ _ _ _ _ h => h⟩
  case round =>
    obtain ⟨k, hk, rfl, rfl, hrow, hin, hbw, hki⟩ := hrel
    have Kp := Lib.hid hki
    have E := Lib.hid hbw
    have R := Lib.hid hrow
    have I := Lib.hid hin
    have hck := Hc.out k
    clear R0 I0 hrow hin hbw hki
    by_cases hlt : k < rs.length
    · obtain ⟨g, hug, hbg, hgr⟩ := I.out k hlt (Nat.le_refl _)
      have G := Lib.hid hgr
      have c0 : wr.cell? ⟨b, k, none⟩ = some (.slice (some ⟨g, 0, none⟩) rs[k].length rs[k].length) := by
        rw [R.out.cell k, List.getElem?_eq_getElem (by rw [Hu.out]; exact hlt), hug]
      have Ne : Hid (∀ (i : Nat) (hi : i < rs.length), k < i → ∀ g', us[i]'(by rw [Hu.out]; exact hi) = .slice (some ⟨g', 0, none⟩) rs[i].length rs[i].length → g' ≠ g) := Lib.hid (fun i hi hki g' hg' he => by
        refine ND.out k i (by rw [Hu.out]; exact hlt) (by rw [Hu.out]; exact hi) hki ?_
        rw [hug, hg', he]; rfl)
      have hct := corners_take hlt
      have hck1 := Hc.out (k + 1)
      have X : Hid (Has wr B 58 2 (.slice (some ⟨g, 0, none⟩) rs[k].length rs[k].length) rs[k].length (rs[k].flatMap ptC)) := Lib.hid (own_of_row G.out (by omega) (flat_len ptC_len _) (by omega))
      have hzB : B ≤ wr.heap.size := by have := G.out.lt; omega
      clear hgr hug
      generalize rs[k].flatMap ptC = cs at *
      generalize rs[k].length = n at *
      go_wp2_with fail
      refine (c_markPointS X.out _ (by omega) (by omega) (by omega)).mono ?_
      rintro e w1 ⟨rfl, hx1, hg1⟩
      have R1 := Lib.hid (R.out.keptI (g := g) hg1 (by omega))
      have E1 := Lib.hid (own_below E.out X.out hg1 hzB)
      have K1 : Hid (KeptI w w1) := Lib.hid (fun B' e' sz' v n' xs' hne h => (Kp.out _ _ _ _ _ _ hne h).grownNe X.out (fun hh => hne hh.symm) hg1)
      have I1 : Hid (∀ (i : Nat) (hi : i < rs.length), k + 1 ≤ i → ∃ g, us[i]'(by rw [Hu.out]; exact hi) = .slice (some ⟨g, 0, none⟩) rs[i].length rs[i].length ∧ b < g ∧ Row w1 g 58 (rs[i].flatMap ptC)) := Lib.hid (fun i hi hki => by
        obtain ⟨g', q1, q2, q3⟩ := I.out i hi (by omega)
        exact ⟨g', q1, q2, q3.keptI (g := g) hg1 (Ne.out i hi hki g' q1)⟩)
      clear hx1 hg1 X
      go_wp2
      go_roundw
      case rel => exact ⟨k + 1, by omega, by go_num, by congr 1; omega, R1.out, I1.out, E1.out, K1.out⟩
      case measure => simp [intOf]; omega
    · have hk' : ¬ ((k : Int) < (rs.length : Int)) := by omega
      go_wp2
      go_ret
      exact ⟨_, rfl, by omega, E.out, Kp.out⟩
end Go.Proofs.Yteknlifgejpjfaa
