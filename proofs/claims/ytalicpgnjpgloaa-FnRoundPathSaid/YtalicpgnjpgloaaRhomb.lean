/-
  Rhombs: the walks.
-/
import Derived.Test.YtalicpgnjpgloaaMg3
namespace Go.Proofs.Ytalicpgnjpgloaa
open Go Go.RowKit Reg
attribute [local go_sem] calmAt calmUpon
abbrev ptW (p : Pt) : Value := .agg #[.int .i64 p.1, .int .i64 p.2]
def rhPts (p : Pt) (r : Int) : List Pt := [(p.1, p.2 - r), (p.1 + r, p.2), (p.1, p.2 + r), (p.1 - r, p.2)]
def rhOk (p : Pt) (r : Int) : Bool := vpB p && inB r 1 1000 && psB (rhPts p r)
/-- Points, and whether they are good. -/
def RetPs (w w' : World) (e : Ending) (ok : Bool) (ps : List Pt) : Prop :=
  ∃ A n cap, e = .returned (.tuple #[.slice A n cap, .bool ok]) ∧ (ok = true → n = ps.length ∧ Pts w' A ps) ∧ Below w.heap.size w w'
set_option maxHeartbeats 1000000 in
theorem c_rhomb (p : Pt) (r : Int) (w : World) : Calls Try.prog 33 #[ptW p, .int .i64 r] w fun e w' => RetPs w w' e (rhOk p r) (rhPts p r) := by
  obtain ⟨x, y⟩ := p
  by_cases hr : inB r 1 1000 = true
  · have hr2 := inB_iff.1 hr
    by_cases hv : vpB (x, y) = true
    · have hv2 := vpB_iff.1 hv
      have Hv := Lib.hid hv
      have Hr := Lib.hid hr
      dsimp only at hv2
      obtain ⟨⟨h1, h2⟩, h3, h4⟩ := hv2
      obtain ⟨h5, h6⟩ := hr2
      go_enter Try.func33, Try.ntmps33
      go_wp2_with (first | (go_at_call 39; (with_reducible refine (c_in _ _ _ _).mono ?_); rintro e w' ⟨rfl, rfl⟩) | (go_at_call 45; (with_reducible refine (c_ptvalid (x, y) _).mono ?_); rintro e w1 ⟨rfl, hb1⟩; obtain ⟨hc1, hf1⟩ := bcell hb1; have hz1 : w.heap.size < w1.heap.size := by have := hb1.size; (try simp at this); omega))
      have cx : w1.cell? ⟨w.heap.size, 0, none⟩ = some (.int .i64 x) := by rw [hc1 _ _ (by simp)]; simp
      have cy : w1.cell? ⟨w.heap.size, 1, none⟩ = some (.int .i64 y) := by rw [hc1 _ _ (by simp)]; simp
      clear hc1 hf1 hv hr
      (refine wp_region_calm [0,1,2,3,4,5] [] (by kernel_rfl) (by kernel_rfl) ?_; (iterate 6 ((refine calm_yes rfl rfl (fun w' hC => (by have cx := hC.cell cx; have cy := hC.cell cy; go_simp; rfl)) (fun K hK => ?_); go_simp; refine hK _ ?_; clear hK K))); refine calm_done (fun w2 hx2 => ?_))
      go_wp2_with fail
      refine (c_pointsValid _ 4 (rhPts (x, y) r) _ (pts_new _ _ _ (by rfl) (by rfl)) (by simp [rhPts])).mono ?_
      have hk : psB (rhPts (x, y) r) = rhOk (x, y) r := by simp [rhOk, Hv.out, Hr.out]
      rw [hk]
      rintro e w3 ⟨rfl, hb3⟩
      have Hx : Hid (Ext w w3) := Lib.hid (Ext.trans (Ext.trans (Ext.trans (by repeat (first | exact Below.refl _ _ | assumption | refine Below.drew ?_ | refine Below.alloc ?_ (by first | exact Nat.le_refl _ | omega | (simp; done) | (simp; omega)) _ | refine Below.setCell ?_ (by first | exact Nat.le_refl _ | omega | (simp; done) | (simp; omega)) _)) hb1) hx2) (Ext.trans (ext_alloc _ _) hb3))
      have Hp : Hid (Pts w3 (some ⟨w2.heap.size, 0, none⟩) (rhPts (x, y) r)) := Lib.hid ((pts_new _ _ _ (by rfl) (by rfl)).ext ptR_stab hb3)
      clear hk hb3 hb1 hx2
      go_wp2
      go_ret2
      exact ⟨_, 4, 4, rfl, fun _ => ⟨rfl, Hp.out⟩, Hx.out⟩
    · simp only [Bool.not_eq_true] at hv
      go_enter Try.func33, Try.ntmps33
      go_wp2_with (first | (go_at_call 39; (with_reducible refine (c_in _ _ _ _).mono ?_); rintro e w' ⟨rfl, rfl⟩) | (go_at_call 45; (with_reducible refine (c_ptvalid (x, y) _).mono ?_); rintro e w1 ⟨rfl, hb1⟩; obtain ⟨hc1, hf1⟩ := bcell hb1; have hz1 : w.heap.size < w1.heap.size := by have := hb1.size; (try simp at this); omega))
      go_ret2
      have hk : rhOk (x, y) r = false := by simp [rhOk, hv]
      rw [hk]
      exact ⟨none, 0, 0, rfl, fun h => (by cases h), Ext.trans (by repeat (first | exact Below.refl _ _ | assumption | refine Below.drew ?_ | refine Below.alloc ?_ (by first | exact Nat.le_refl _ | omega | (simp; done) | (simp; omega)) _ | refine Below.setCell ?_ (by first | exact Nat.le_refl _ | omega | (simp; done) | (simp; omega)) _)) hb1⟩
  · simp only [Bool.not_eq_true] at hr
    go_enter Try.func33, Try.ntmps33
    go_wp2_with (go_at_call 39; (with_reducible refine (c_in _ _ _ _).mono ?_); rintro e w' ⟨rfl, rfl⟩)
    go_ret2
    have hk : rhOk (x, y) r = false := by simp [rhOk, hr]
    rw [hk]
    exact ⟨none, 0, 0, rfl, fun h => (by cases h), (by repeat (first | exact Below.refl _ _ | assumption | refine Below.drew ?_ | refine Below.alloc ?_ (by first | exact Nat.le_refl _ | omega | (simp; done) | (simp; omega)) _ | refine Below.setCell ?_ (by first | exact Nat.le_refl _ | omega | (simp; done) | (simp; omega)) _))⟩
end Go.Proofs.Ytalicpgnjpgloaa
