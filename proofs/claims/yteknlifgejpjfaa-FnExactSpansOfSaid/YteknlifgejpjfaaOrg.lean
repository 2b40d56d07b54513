/-
  Rows of polygons of one's own.
-/
import Derived.Test.YteknlifgejpjfaaVbL
import Derived.Test.YteknlifgejpjfaaClone
import Derived.Test.YteknlifgejpjfaaRings
namespace Go.Proofs.Yteknlifgejpjfaa
open Go Go.RowKit Reg
/-- v is a row of polygons of one's own; ss: their slices, each a row of its own. -/
structure ORg (w : World) (B : Nat) (TP TR : TypeId) (v : Value) (rs : List Rg) (ss : List Value) : Prop where
  len : ss.length = rs.length
  out : Has w B TR 1 v rs.length ss
  inn : ∀ (i : Nat) (h : i < rs.length), Has w B TP 2 (ss[i]'(by omega)) rs[i].length (rs[i].flatMap ptC)
  nd : ∀ (i j : Nat) (hi : i < ss.length) (hj : j < ss.length), i ≠ j → ss[i].ownBlock = none ∨ ss[i].ownBlock ≠ ss[j].ownBlock
section
variable {w w' : World} {B : Nat} {TP TR : TypeId} {v : Value} {rs : List Rg} {ss : List Value}
theorem ORg.ext (h : ORg w B TP TR v rs ss) (hx : Ext w w') : ORg w' B TP TR v rs ss := ⟨h.len, own_ext h.out hx, fun i hi => own_ext (h.inn i hi) hx, h.nd⟩
theorem ORg.nil (w : World) (B : Nat) (TP TR : TypeId) : ORg w B TP TR (.slice none 0 0) [] [] := ⟨rfl, own_nil _ _ _ _, fun i hi => by simp at hi, fun i j hi => by simp at hi⟩
theorem ORg.rebase {B' : Nat} (h : ORg w B TP TR v rs ss) (hB : B' ≤ B) : ORg w B' TP TR v rs ss := ⟨h.len, h.out.rebase hB, fun i hi => (h.inn i hi).rebase hB, h.nd⟩
theorem has_rg {B : Nat} {e : TypeId} {A : Option Addr} {cap : Nat} {r : Rg} (h : Has w B e 2 (.slice A r.length cap) r.length (r.flatMap ptC)) : rgR w r [.slice A r.length cap] := by
  obtain ⟨h1, h2, h3⟩ := h.slok
  exact ⟨A, cap, rfl, own_in (enc := ptC) ptC_len (by decide) h (fun _ => rfl), by omega, h2, h3, h1⟩
theorem ORg.in_ {A : Option Addr} {cap : Nat} (h : ORg w B TP TR (.slice A rs.length cap) rs ss) : Rgs w A rs := by
  intro hn
  obtain ⟨g, hA, _, _⟩ := own_at h.out hn
  subst hA
  refine ⟨g, 0, rfl, fun k hk => ?_⟩
  have hi := h.inn k hk
  obtain ⟨A', cap', hs⟩ := own_form hi
  rw [hs] at hi
  refine ⟨_, has_rg hi, rfl, fun j u hu => ?_⟩
  have hj : j = 0 := by
    have := (List.getElem?_eq_some_iff.1 hu).1
    simp at this; omega
  subst hj
  simp at hu; subst hu
  have hl := h.len
  rw [Nat.zero_add, Nat.mul_one, Nat.add_zero, h.out.cellAt k (by omega), List.getElem?_eq_getElem (by omega), hs]
theorem ORg.old (h : ORg w B TP TR v rs ss) : ∀ (i : Nat) (hi : i < ss.length) g, ss[i].ownBlock = some g → B ≤ g ∧ g < w.heap.size := fun i hi g hg =>
  (h.inn i (by rw [← h.len]; exact hi)).lt g hg
/-- One more polygon, in a row that none of the others has. -/
theorem ORg.push {v' : Value} {r : Rg} {s : Value} {b : Nat} (h : ORg w B TP TR v rs ss) (hT : TP ≠ TR) (hs : Has w B TP 2 s r.length (r.flatMap ptC))
    (hlt : ∀ (i : Nat) (hi : i < ss.length) g, ss[i].ownBlock = some g → g < b) (hge : ∀ g, s.ownBlock = some g → b ≤ g)
    (hout : Has w' B TR 1 v' (rs.length + 1) (ss ++ [s])) (hg : w.grownBy w' v.ownBlock) : ORg w' B TP TR v' (rs ++ [r]) (ss ++ [s]) := by
  have hl := h.len
  refine ⟨by simp [hl], by rw [List.length_append]; exact hout, fun i hi => ?_, fun i j hi hj hij => ?_⟩
  · simp only [List.length_append, List.length_cons, List.length_nil] at hi
    rcases Nat.lt_or_ge i rs.length with hlt | hge
    · have := (h.inn i hlt).kept hg (own_ne (h.inn i hlt) h.out hT)
      simpa [List.getElem_append_left hlt, List.getElem_append_left (show i < ss.length by omega)] using this
    · have hi' : i = rs.length := by omega
      subst hi'
      have := hs.kept hg (own_ne hs h.out hT)
      have e1 : (rs ++ [r])[rs.length]'(by simp) = r := by simp
      have e2 : (ss ++ [s])[rs.length]'(by simp [hl]) = s := by simp [← hl]
      rw [e1, e2]
      exact this
  · simp only [List.length_append, List.length_cons, List.length_nil] at hi hj
    rcases Nat.lt_or_ge i ss.length with hi1 | hi1 <;> rcases Nat.lt_or_ge j ss.length with hj1 | hj1
    · rw [List.getElem_append_left hi1, List.getElem_append_left hj1]
      exact h.nd i j hi1 hj1 hij
    · obtain rfl : j = ss.length := by omega
      rw [List.getElem_append_left hi1]
      cases hc : ss[i].ownBlock with
      | none => exact .inl rfl
      | some g => exact .inr fun he => by have q1 := hlt i hi1 g hc; have q2 := hge g (by simpa using he.symm); omega
    · obtain rfl : i = ss.length := by omega
      rw [List.getElem_append_left hj1]
      cases hc : s.ownBlock with
      | none => left; simpa using hc
      | some g => right; intro he; have q1 := hlt j hj1 g (by rw [← he]; simpa using hc); have q2 := hge g hc; omega
    · omega
/-- A row apart from all of these is turned. -/
theorem ORg.grownN {row : Option Nat} {b : Nat} (h : ORg w B TP TR v rs ss) (_hT : TP ≠ TR) (hb : ∀ (i : Nat) (hi : i < ss.length) g, ss[i].ownBlock = some g → g < b) (hg : w.grownBy w' row) (hr : ∀ k, row = some k → b ≤ k)
    (ho : v.ownBlock = none ∨ v.ownBlock ≠ row) : ORg w' B TP TR v rs ss :=
  ⟨h.len, h.out.kept hg ho, fun i hi => (h.inn i hi).kept hg (by
    cases hc : (ss[i]'(by have := h.len; omega)).ownBlock with
    | none => exact .inl rfl
    | some g => exact .inr fun he => by have q1 := hb i (by have := h.len; omega) g hc; have q2 := hr g he.symm; omega), h.nd⟩
theorem ORg.one (h : ORg w B TP TR v rs ss) : ∀ u ∈ ss, u.oneCell' = true := by
  intro u hu
  obtain ⟨i, hi, rfl⟩ := List.getElem_of_mem hu
  obtain ⟨A, cap, hs⟩ := own_form (h.inn i (by rw [← h.len]; exact hi))
  rw [hs]; rfl
end
theorem ei_rg : EI Try.prog 26 42 (.slice none 0 0) [.slice none 0 0] 24 := ei_mk Try.underlying26 (by kernel_rfl) rfl (by decide) (by decide)
theorem TP_ne_TR : (58 : TypeId) ≠ 42 := by decide
abbrev OR (w : World) (B : Nat) (v : Value) (rs : List Rg) (ss : List Value) : Prop := ORg w B 58 42 v rs ss
/-- Polygons returned, in rows of their own. -/
def RetRg (w : World) (RS : List Rg) (e : Ending) (w' : World) : Prop := ∃ A' cap' ss, e = .returned (.slice A' RS.length cap') ∧ OR w' w.heap.size (.slice A' RS.length cap') RS ss ∧ Below w.heap.size w w'
end Go.Proofs.Yteknlifgejpjfaa
