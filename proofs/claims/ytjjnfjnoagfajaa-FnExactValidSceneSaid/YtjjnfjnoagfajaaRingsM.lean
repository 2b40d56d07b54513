/-
  The polygons of a path as the program holds them, plainly; a polygon of a row replaced.
-/
import Derived.Test.YtjjnfjnoagfajaaRingsL
import Derived.Test.YtjjnfjnoagfajaaOrg
namespace Go.Proofs.Ytjjnfjnoagfajaa
open Go Go.RowKit Reg
/-- The polygons after k verbs. -/
def ringsIt (vs : List Vb) (k : Nat) : List Rg := if 0 < (ringsSt vs k).2.length then (ringsSt vs k).1 ++ [(ringsSt vs k).2] else (ringsSt vs k).1
theorem ringsIt_zero (vs : List Vb) : ringsIt vs 0 = [] := rfl
theorem ringsIt_all (vs : List Vb) : ringsIt vs vs.length = ringsL vs := rfl
theorem ringsIt_move {vs : List Vb} {k : Nat} (hk : k < vs.length) (h : vs[k].1 = 0) (hl : 0 < vs[k].2.length) : ringsIt vs (k + 1) = ringsIt vs k ++ [[vs[k].2[0]]] := by
  have e := ringsSt_move hk h hl
  unfold ringsIt
  rw [e, if_pos (by simp)]
theorem ringsIt_close {vs : List Vb} {k : Nat} (hk : k < vs.length) (h : vs[k].1 = 4) : ringsIt vs (k + 1) = ringsIt vs k := by
  unfold ringsIt
  rw [ringsSt_close hk h]
theorem ringsIt_line {vs : List Vb} {k : Nat} (hk : k < vs.length) (h : vs[k].1 ≠ 0) (h4 : vs[k].1 ≠ 4) (hto : vbsTo vs k) (hk0 : 0 < k) :
    ∃ done now, ringsIt vs k = done ++ [now] ∧ 0 < now.length ∧ VpAll now ∧ now.length ≤ 8 * k ∧ ringsIt vs (k + 1) = done ++ [now ++ flatL 8 3 (now.getLastD (0, 0) :: vs[k].2)] := by
  obtain ⟨i1, i2, i3, i4, i5⟩ := ringsSt_ok hto (by omega)
  have hf := flatL_len 8 3 ((ringsSt vs k).2.getLastD (0, 0) :: vs[k].2)
  have hn := i4 hk0
  refine ⟨(ringsSt vs k).1, (ringsSt vs k).2, by unfold ringsIt; rw [if_pos hn], hn, i1, ?_, ?_⟩
  · omega
  · unfold ringsIt
    rw [ringsSt_line hk h h4, if_pos (by dsimp only; rw [List.length_append]; omega)]
theorem ringsIt_len {vs : List Vb} {k : Nat} (hto : vbsTo vs k) (hk : k ≤ vs.length) : (ringsIt vs k).length ≤ k + 1 := by
  obtain ⟨i1, i2, i3, i4, i5⟩ := ringsSt_ok hto hk
  unfold ringsIt
  split
  · simp; omega
  · omega
section
variable {w w' : World} {B : Nat} {TP TR : TypeId} {rs : List Rg} {ss : List Value}
/-- One polygon is replaced by another, in a newer row. -/
theorem ORg.put {w1 w2 : World} {g cap i : Nat} {s s' : Value} {r' : Rg} (h : ORg w B TP TR (.slice (some ⟨g, 0, none⟩) rs.length cap) rs ss) (hT : TP ≠ TR) (hi : i < ss.length) (he : ss[i] = s)
    (hg : w.grownBy w1 s.ownBlock) (hx : Ext w1 w2) (hs : Has w2 w1.heap.size TP 2 s' r'.length (r'.flatMap ptC)) : ORg (w2.setCell ⟨g, i, none⟩ s') B TP TR (.slice (some ⟨g, 0, none⟩) rs.length cap) (rs.set i r') (ss.set i s') := by
  subst he
  have hl := h.len
  have hgb := h.out.lt g rfl
  have hn1 := hg.size
  have ho := own_ext (h.out.kept hg (own_ne h.out (h.inn i (by omega)) (Ne.symm hT))) hx
  refine ⟨by simp [hl], by rw [List.length_set]; exact (ho.stored i s').1, fun j hj => ?_, fun j k hj hk hjk => ?_⟩
  · rw [List.length_set] at hj
    by_cases hji : i = j
    · subst hji
      simp only [List.getElem_set_self]
      refine Has.rebase (Has.kept hs (only_set (only_refl w2 _) i s') ?_) (by omega)
      cases hc : s'.ownBlock with
      | none => exact .inl rfl
      | some q => exact .inr fun hh => by injection hh with hh; have := (hs.lt q hc).1; omega
    · simp only [List.getElem_set_ne hji]
      have h1 := own_ext ((h.inn j hj).kept hg (h.nd j i (by omega) hi (Ne.symm hji))) hx
      exact h1.kept (only_set (only_refl w2 _) i s') (own_ne h1 ho hT)
  · rw [List.length_set] at hj hk
    have hold : ∀ (q : Nat) (hq : q < ss.length), ss[q].ownBlock = none ∨ ss[q].ownBlock ≠ s'.ownBlock := fun q hq => by
      cases hc : ss[q].ownBlock with
      | none => exact .inl rfl
      | some b => exact .inr fun hh => by have q1 := (h.old q hq b hc).2; have q2 := (hs.lt b hh.symm).1; omega
    by_cases h1 : i = j
    · subst h1
      rw [List.getElem_set_self, List.getElem_set_ne hjk]
      cases hc : s'.ownBlock with
      | none => exact .inl rfl
      | some b => exact .inr fun hh => by have q1 := (h.old k hk b hh.symm).2; have q2 := (hs.lt b hc).1; omega
    · by_cases h2 : i = k
      · subst h2
        rw [List.getElem_set_self, List.getElem_set_ne (Ne.symm hjk)]
        exact hold j hj
      · rw [List.getElem_set_ne h1, List.getElem_set_ne h2]
        exact h.nd j k hj hk hjk
end
end Go.Proofs.Ytjjnfjnoagfajaa
