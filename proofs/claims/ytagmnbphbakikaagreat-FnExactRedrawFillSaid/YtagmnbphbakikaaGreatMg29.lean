/-
  Several texts in one: PtSS, MarkI.
-/
import Derived.Test.YtagmnbphbakikaaGreatMg8
import Derived.Test.YtagmnbphbakikaaGreatMg3
import Derived.Test.YtagmnbphbakikaaGreatMg1
namespace Go.Proofs.YtagmnbphbakikaaGreat
open Go Go.RowKit Go.ChangeShapes Go.WideShapes Go.ChangeAt Go.Deep Reg
attribute [local go_sem] calmAt calmUpon
theorem rows_pts {w : World} {b : Nat} {e : TypeId} {ps : List Pt} (h : Row w b e (ps.flatMap ptC)) : Pts w (some ⟨b, 0, none⟩) ps := Row.in_ (rest := []) (enc := ptC) ptC_len (by simpa using h) (fun _ _ => rfl)
abbrev nilS : Value := .slice none 0 0
/-- The first of these polygons lie copied, in blocks of their own behind b. -/
structure Copd (w : World) (b : Nat) (TP TR : TypeId) (rs : List Rg) (us : List Value) : Prop where
  le : us.length ≤ rs.length
  row : Row w b TR (us ++ List.replicate (rs.length - us.length) nilS)
  inn : ∀ (i : Nat) (h : i < us.length), ∃ g, us[i] = .slice (some ⟨g, 0, none⟩) (rs[i]'(by omega)).length (rs[i]'(by omega)).length ∧ b < g ∧ Row w g TP ((rs[i]'(by omega)).flatMap ptC)
  nd : ∀ (i j : Nat) (hi : i < us.length) (hj : j < us.length), i < j → us[i].ownBlock ≠ us[j].ownBlock
section
variable {w w' : World} {b : Nat} {TP TR : TypeId} {rs : List Rg} {us : List Value}
theorem Copd.ext (h : Copd w b TP TR rs us) (hx : Ext w w') : Copd w' b TP TR rs us := ⟨h.le, h.row.ext hx, fun i hi => by
  obtain ⟨g, h1, h2, h3⟩ := h.inn i hi; exact ⟨g, h1, h2, h3.ext hx⟩, h.nd⟩
theorem Copd.old (h : Copd w b TP TR rs us) : ∀ (i : Nat) (hi : i < us.length) g, us[i].ownBlock = some g → g < w.heap.size := fun i hi g hg => by
  obtain ⟨g', h1, _, h3⟩ := h.inn i hi
  rw [h1] at hg
  have : g' = g := by simpa [Value.ownBlock] using hg
  subst this; exact h3.lt
theorem set_app (us : List Value) (n : Nat) (s z : Value) : (us ++ List.replicate (n + 1) z).set us.length s = (us ++ [s]) ++ List.replicate n z := by
  simp [List.replicate_succ]
theorem Copd.push (h : Copd w b TP TR rs us) (hk : us.length < rs.length) {g : Nat} (hg : b < g) (hge : ∀ (i : Nat) (hi : i < us.length) g', us[i].ownBlock = some g' → g' < g) (hr : Row w g TP (rs[us.length].flatMap ptC)) :
    Copd (w.setCell ⟨b, us.length, none⟩ (.slice (some ⟨g, 0, none⟩) rs[us.length].length rs[us.length].length)) b TP TR rs (us ++ [.slice (some ⟨g, 0, none⟩) rs[us.length].length rs[us.length].length]) := by
  refine ⟨by simp; omega, ?_, fun i hi => ?_, fun i j hi hj hij => ?_⟩
  · have := h.row.set_ us.length (.slice (some ⟨g, 0, none⟩) rs[us.length].length rs[us.length].length)
    have e : rs.length - us.length = (rs.length - (us.length + 1)) + 1 := by omega
    rw [e, set_app] at this
    rw [List.length_append]
    exact this
  · simp only [List.length_append, List.length_cons, List.length_nil] at hi
    rcases Nat.lt_or_ge i us.length with hlt | hge
    · obtain ⟨g', h1, h2, h3⟩ := h.inn i hlt
      exact ⟨g', by rw [List.getElem_append_left hlt]; exact h1, h2, h3.far (by show g' ≠ b; omega) _⟩
    · obtain rfl : i = us.length := by omega
      exact ⟨g, by simp, hg, hr.far (by show g ≠ b; omega) _⟩
  · simp only [List.length_append, List.length_cons, List.length_nil] at hi hj
    rw [List.getElem_append_left (show i < us.length by omega)]
    rcases Nat.lt_or_ge j us.length with hlt | hge2
    · rw [List.getElem_append_left hlt]; exact h.nd i j (by omega) hlt hij
    · obtain rfl : j = us.length := by omega
      obtain ⟨g', h1, _, _⟩ := h.inn i (by omega)
      have h2 : us[i].ownBlock = some g' := by rw [h1]; rfl
      have h3 := hge i (by omega) g' h2
      rw [h2]
      intro he
      have : g' = g := by simpa [Value.ownBlock] using he
      omega
theorem Copd.rgs (h : Copd w b TP TR rs us) (hl : us.length = rs.length) (hs : ∀ r ∈ rs, r.length ≤ 1000000000) : Rgs w (some ⟨b, 0, none⟩) rs := by
  intro _
  refine ⟨b, 0, rfl, fun k hk => ?_⟩
  obtain ⟨g, h1, _, h3⟩ := h.inn k (by omega)
  have hb := hs _ (List.getElem_mem hk)
  refine ⟨[us[k]], ⟨some ⟨g, 0, none⟩, rs[k].length, by rw [h1], rows_pts h3, by unfold maxLen; omega, Nat.le_refl _, by unfold maxLen; omega, fun hh => by cases hh⟩, rfl, fun j u hu => ?_⟩
  have hj : j = 0 := by
    have := (List.getElem?_eq_some_iff.1 hu).1
    simp at this; omega
  subst hj
  simp at hu; subst hu
  rw [Nat.zero_add, Nat.mul_one, Nat.add_zero, h.row.cell k, List.getElem?_append_left (by omega), List.getElem?_eq_getElem (by omega)]
end
end Go.Proofs.YtagmnbphbakikaaGreat
namespace Go.Proofs.YtagmnbphbakikaaGreat
open Go Go.RowKit Reg
attribute [local go_sem] calmAt calmUpon
theorem intC_len (n : Int) : (intC n).length = 1 := rfl
theorem Row.keptI {w w' : World} {b g : Nat} {e : TypeId} {cs : List Value} (h : Row w b e cs) (hg : w.grownBy w' (some g)) (hne : b ≠ g) : Row w' b e cs := (hg.block b h.lt (fun hh => hne (by cases hh; rfl))).trans h
end Go.Proofs.YtagmnbphbakikaaGreat
