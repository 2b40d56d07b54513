/-
  Polygons whose first point is put behind all others.
-/
import Derived.Test.YteankmkhieckbaaWindX
import Derived.Test.YteankmkhieckbaaRegionO
import Derived.Test.YteankmkhieckbaaOrg
import Derived.Test.YteankmkhieckbaaSlice
namespace Go.Proofs.Yteankmkhieckbaa
open Go Go.RowKit Reg
theorem src_row {w : World} {g : Nat} {e : TypeId} {cs : List Value} {m sz : Nat} (h : Row w g e cs) (hl : cs.length = m * sz) (h1 : ∀ u ∈ cs, u.oneCell' = true) : Src w (some ⟨g, 0, none⟩) m sz cs :=
  ⟨hl, (fun hh => by cases hh), (fun ad had j u hu => by
    cases had
    rw [addr_add, Nat.zero_add, h.cell]; exact hu), h1⟩
theorem rgB_turn (r : Rg) : rgB (turnL r) = rgB r := by
  cases r with
  | nil => rfl
  | cons a r => simp [rgB, psB, turnL, Bool.and_comm]
theorem turnL_len (r : Rg) : (turnL r).length = r.length := by
  cases r with
  | nil => rfl
  | cons a r => simp [turnL]
theorem corners_turn (rs : List Rg) : corners (rs.map turnL) = corners rs := by unfold corners; rw [List.map_map]; congr 1; apply List.map_congr_left; intro r _; exact turnL_len r
theorem rgsB_turn (rs : List Rg) : rgsB (rs.map turnL) = rgsB rs := by
  unfold rgsB
  rw [corners_turn, List.length_map, List.all_map]
  congr 2
  funext r; exact rgB_turn r
theorem turnL_at {r : Rg} (h : 0 < r.length) : turnL r = r.drop 1 ++ [r[0]] := by
  cases r with
  | nil => simp at h
  | cons a r => rfl
theorem windR_turn {rs : List Rg} (h : rgsB rs = true) (x y : Int) : windR (rs.map turnL) x y = windR rs x y := by
  rw [windR_eq h, windR_eq (by rw [rgsB_turn]; exact h)]; exact sumS_turnL _ rs
theorem areaR_turn (rs : List Rg) : areaR (rs.map turnL) = areaR rs := by
  unfold areaR areaL
  rw [rgsB_turn, sumS_turnL]
end Go.Proofs.Yteankmkhieckbaa
