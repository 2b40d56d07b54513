/-
  Rows of polygons copied: what is read of them.
-/
import Derived.Test.YteankmkhieckbaaWindX
namespace Go.Proofs.Yteankmkhieckbaa
open Go Go.RowKit Reg
/-- The cells of a row of polygons. -/
theorem rgs_src {w : World} {A : Option Addr} {rs : List Rg} (h : Rgs w A rs) : ∃ us : List Value, us.length = rs.length ∧ Src w A rs.length 1 us ∧ ∀ (k : Nat) (h1 : k < us.length) (h2 : k < rs.length), rgR w rs[k] [us[k]] := by
  rcases Nat.eq_zero_or_pos rs.length with h0 | hn
  · exact ⟨[], by simp [h0], ⟨by simp [h0], fun _ => h0, fun ad _ j u hu => by simp at hu, by simp⟩, fun k h1 => by simp at h1⟩
  · obtain ⟨b, off, hA, hc⟩ := h hn
    subst hA
    have hc' : ∀ i : Fin rs.length, ∃ u, rgR w rs[i.val] [u] ∧ w.cell? ⟨b, off + i.val, none⟩ = some u := by
      intro i
      obtain ⟨us, ⟨A', cap', h1, h2⟩, _, h3⟩ := hc i.val i.isLt
      subst h1
      have := h3 0 _ rfl
      simp only [Nat.mul_one, Nat.add_zero] at this
      exact ⟨_, ⟨A', cap', rfl, h2⟩, this⟩
    have hpick : ∃ f : Fin rs.length → Value, ∀ i : Fin rs.length, rgR w rs[i.val] [f i] ∧ w.cell? ⟨b, off + i.val, none⟩ = some (f i) := ⟨fun i => Classical.choose (hc' i), fun i => Classical.choose_spec (hc' i)⟩
    obtain ⟨f, hf⟩ := hpick
    refine ⟨List.ofFn f, by simp, ⟨by simp, (fun h => by cases h), fun ad had j u hu => ?_, fun u hu => ?_⟩, fun k h1 h2 => ?_⟩
    · injection had with had
      subst had
      have hj : j < rs.length := by have := (List.getElem?_eq_some_iff.1 hu).1; simpa using this
      have e1 : (⟨b, off, none⟩ : Addr).add j = ⟨b, off + j, none⟩ := addr_add b off j
      rw [e1, (hf ⟨j, hj⟩).2]
      rw [List.getElem?_eq_getElem (by simpa using hj)] at hu
      simpa using hu
    · obtain ⟨i, hi, rfl⟩ := List.getElem_of_mem hu
      simp only [List.length_ofFn] at hi
      obtain ⟨A', cap', h1, _⟩ := (hf ⟨i, hi⟩).1
      simp only [List.getElem_ofFn]
      injection h1 with h1
      rw [h1]; rfl
    · simpa using (hf ⟨k, h2⟩).1
/-- An owned row of slices reads as polygons. -/
theorem own_rgs {w : World} {B : Nat} {e : TypeId} {A : Option Addr} {cap : Nat} {us : List Value} {rs : List Rg} (h : Has w B e 1 (.slice A rs.length cap) rs.length us) (hr : ∀ (k : Nat) (h1 : k < us.length) (h2 : k < rs.length), rgR w rs[k] [us[k]]) : Rgs w A rs := by
  intro hn
  obtain ⟨g, hA, _, _⟩ := own_at h hn
  subst hA
  have hl : us.length = rs.length := by have := h.1; omega
  refine ⟨g, 0, rfl, fun k hk => ⟨[us[k]'(by omega)], hr k (by omega) hk, rfl, fun j u hu => ?_⟩⟩
  have hj : j = 0 := by
    have := (List.getElem?_eq_some_iff.1 hu).1
    simp at this; omega
  subst hj
  simp at hu; subst hu
  rw [Nat.zero_add, Nat.mul_one, Nat.add_zero, h.cellAt k (by omega), List.getElem?_eq_getElem (by omega)]
theorem rgR_app {w : World} {us vs : List Value} {rs qs : List Rg} (hl : us.length = rs.length) (h1 : ∀ (k : Nat) (h1 : k < us.length) (h2 : k < rs.length), rgR w rs[k] [us[k]]) (h2 : ∀ (k : Nat) (h1 : k < vs.length) (h2 : k < qs.length), rgR w qs[k] [vs[k]]) :
    ∀ (k : Nat) (h1 : k < (us ++ vs).length) (h2 : k < (rs ++ qs).length), rgR w (rs ++ qs)[k] [(us ++ vs)[k]] := by
  intro k k1 k2
  rcases Nat.lt_or_ge k us.length with h | h
  · simp only [List.getElem_append_left h, List.getElem_append_left (show k < rs.length by omega)]
    exact h1 k h (by omega)
  · simp only [List.getElem_append_right h, List.getElem_append_right (show rs.length ≤ k by omega)]
    simp only [List.length_append] at k1 k2
    have := h2 (k - us.length) (by omega) (by omega)
    simpa only [hl] using this
theorem rgs_ext {w w' : World} {us : List Value} {rs : List Rg} (h : ∀ (k : Nat) (h1 : k < us.length) (h2 : k < rs.length), rgR w rs[k] [us[k]]) (hx : Ext w w') : ∀ (k : Nat) (h1 : k < us.length) (h2 : k < rs.length), rgR w' rs[k] [us[k]] := fun k h1 h2 => rgR_stab _ _ _ _ (h k h1 h2) hx
theorem Src.ext' {w w' : World} {A : Option Addr} {m sz : Nat} {us : List Value} (h : Src w A m sz us) (hx : Ext w w') : Src w' A m sz us := h.ext hx
end Go.Proofs.Yteankmkhieckbaa
