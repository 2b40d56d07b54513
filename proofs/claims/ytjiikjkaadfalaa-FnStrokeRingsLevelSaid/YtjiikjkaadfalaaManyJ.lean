/-
  Several memories of points made and filled in any order.
-/
import Derived.Test.YtjiikjkaadfalaaLib
import Derived.Test.YtjiikjkaadfalaaRegionJ
namespace Go.Proofs.Ytjiikjkaadfalaa
open Go Go.RowKit Reg
/-- m memories of points, made by the operations s, s + 1, .. and filled by the m ones behind them, in any order. -/
structure ManyJ (s m : Nat) (B : Nat) (ts : Nat → Pt) (TP : TypeId) (listed : Array Bool) (vals : Nat → Value) (w : World) : Prop where
  dn : ∀ i, i < m → listed.getD (s + m + i) false = true → listed.getD (s + i) false = true
  at_ : ∀ i, i < m → listed.getD (s + i) false = true → ∃ g cs, vals (s + i) = .pointer (some ⟨g, 0, none⟩) ∧ B ≤ g ∧ Row w g TP cs ∧ cs.length = 2 ∧ (listed.getD (s + m + i) false = true → cs = ptC (ts i))
  nd : ∀ i j, i < m → j < m → i ≠ j → listed.getD (s + i) false = true → listed.getD (s + j) false = true → vals (s + i) ≠ vals (s + j)
theorem ManyJ.ext {s m B : Nat} {ts : Nat → Pt} {TP : TypeId} {listed : Array Bool} {vals : Nat → Value} {w w' : World} (h : ManyJ s m B ts TP listed vals w) (hx : Ext w w') : ManyJ s m B ts TP listed vals w' :=
  ⟨h.dn, fun i hi hl => by obtain ⟨g, cs, h1, h2, h3, h4⟩ := h.at_ i hi hl; exact ⟨g, cs, h1, h2, h3.ext hx, h4⟩, h.nd⟩
theorem ManyJ.alloc {s m B : Nat} {ts : Nat → Pt} {TP : TypeId} {listed : Array Bool} {vals : Nat → Value} {w : World} (h : ManyJ s m B ts TP listed vals w) (hB : B ≤ w.heap.size) {i : Nat} (hi : i < m) (hu : listed.getD (s + i) false = false) {cs : List Value} (hl : cs.length = 2) :
    ManyJ s m B ts TP (listed.setIfInBounds (s + i) true) (upd vals (s + i) (.pointer (some ⟨w.heap.size, 0, none⟩))) (w.alloc (.cells cs.toArray TP)) := by
  have n1 : ∀ j, (listed.setIfInBounds (s + i) true).getD (s + m + j) false = listed.getD (s + m + j) false := fun j => getD_set_ne false (by omega)
  have n2 : ∀ j, j ≠ i → (listed.setIfInBounds (s + i) true).getD (s + j) false = listed.getD (s + j) false := fun j hj => getD_set_ne false (by omega)
  have n3 : ∀ j, j ≠ i → upd vals (s + i) (.pointer (some ⟨w.heap.size, 0, none⟩)) (s + j) = vals (s + j) := fun j hj => upd_ne (by omega)
  refine ⟨fun j hj hl2 => getD_set_true (h.dn j hj (by rw [← n1]; exact hl2)), fun j hj hl2 => ?_, fun j k hj hk hjk h1 h2 => ?_⟩
  · by_cases he : j = i
    · subst he
      refine ⟨w.heap.size, cs, upd_same _ _ _, hB, Row.new w TP cs, hl, fun h3 => ?_⟩
      rw [n1] at h3
      rw [h.dn j hj h3] at hu; cases hu
    · rw [n2 j he] at hl2
      rw [n1, n3 j he]
      obtain ⟨g, cs2, h1, h2, h3, h4⟩ := h.at_ j hj hl2
      exact ⟨g, cs2, h1, h2, h3.alloc _, h4⟩
  · have key : ∀ n, n < m → n ≠ i → listed.getD (s + n) false = true → vals (s + n) ≠ .pointer (some ⟨w.heap.size, 0, none⟩) := fun n hm _ hlm he => by
      obtain ⟨g, cs2, h1, h2, h3, h4⟩ := h.at_ n hm hlm
      rw [h1] at he
      have := h3.lt
      simp at he
    by_cases he : j = i
    · subst he
      have hkj := Ne.symm hjk
      rw [n2 k hkj] at h2
      rw [upd_same, n3 k hkj]
      exact (key k hk hkj h2).symm
    · rw [n2 j he] at h1
      by_cases he2 : k = i
      · subst he2
        rw [upd_same, n3 j he]
        exact key j hj he h1
      · rw [n2 k he2] at h2
        rw [n3 j he, n3 k he2]
        exact h.nd j k hj hk hjk h1 h2
theorem ManyJ.store {s m B : Nat} {ts : Nat → Pt} {TP : TypeId} {listed : Array Bool} {vals : Nat → Value} {w w' : World} (h : ManyJ s m B ts TP listed vals w) {i : Nat} (hi : i < m) (hu : listed.getD (s + i) false = true) {g : Nat} (hg : vals (s + i) = .pointer (some ⟨g, 0, none⟩)) (v : Value)
    (hr : Row w' g TP (ptC (ts i))) (hf : ∀ g' cs, g' ≠ g → Row w g' TP cs → Row w' g' TP cs) :
    ManyJ s m B ts TP (listed.setIfInBounds (s + m + i) true) (upd vals (s + m + i) v) w' := by
  have n1 : ∀ j, j < m → (listed.setIfInBounds (s + m + i) true).getD (s + j) false = listed.getD (s + j) false := fun j hj => getD_set_ne false (by omega)
  have n2 : ∀ j, j ≠ i → (listed.setIfInBounds (s + m + i) true).getD (s + m + j) false = listed.getD (s + m + j) false := fun j hj => getD_set_ne false (by omega)
  have n3 : ∀ j, j < m → upd vals (s + m + i) v (s + j) = vals (s + j) := fun j hj => upd_ne (by omega)
  refine ⟨fun j hj hl2 => ?_, fun j hj hl2 => ?_, fun j k hj hk hjk h1 h2 => ?_⟩
  · rw [n1 j hj]
    by_cases he : j = i
    · subst he; exact hu
    · exact h.dn j hj (by rw [← n2 j he]; exact hl2)
  · rw [n1 j hj] at hl2
    rw [n3 j hj]
    obtain ⟨g', cs2, h1, h2, h3, h4, h5⟩ := h.at_ j hj hl2
    by_cases he : j = i
    · subst he
      rw [hg] at h1
      obtain rfl : g = g' := by simpa using h1
      exact ⟨g, _, hg, h2, hr, rfl, fun _ => rfl⟩
    · rw [n2 j he]
      have hne : g' ≠ g := fun e => h.nd j i hj hi he hl2 hu (by rw [h1, hg, e])
      exact ⟨g', cs2, h1, h2, hf g' cs2 hne h3, h4, h5⟩
  · rw [n1 j hj] at h1
    rw [n1 k hk] at h2
    rw [n3 j hj, n3 k hk]
    exact h.nd j k hj hk hjk h1 h2
end Go.Proofs.Ytjiikjkaadfalaa
