/-
  Fills and scenes as arguments: how they are read.
-/
import Derived.Test.YtagmnbphbakikaaGreatMg10
import Derived.Test.YtagmnbphbakikaaGreatMg6
namespace Go.Proofs.YtagmnbphbakikaaGreat
open Go Go.RowKit Go.ChangeShapes Go.WideShapes Go.ChangeAt Go.Deep Reg
/-- Three parts, one behind the other. -/
def tripR {α β γ : Type} (R0 : World → α → List Value → Prop) (R1 : World → β → List Value → Prop) (R2 : World → γ → List Value → Prop) : World → α × β × γ → List Value → Prop := fun w x us => ∃ u0 u1 u2, R0 w x.1 u0 ∧ R1 w x.2.1 u1 ∧ R2 w x.2.2 u2 ∧ us = u0 ++ u1 ++ u2
theorem opens_struct3 {α β γ : Type} {P : Program} {t : TypeId} {f0 f1 f2 : Field} {c0 c1 c2 : Nat} {R0 : World → α → List Value → Prop} {R1 : World → β → List Value → Prop} {R2 : World → γ → List Value → Prop} (ht : P.underlying t = some (.struct #[f0, f1, f2]))
    (hc : P.cellsOf t = c0 + c1 + c2) (ho : (f0.offset, f1.offset, f2.offset) = (0, c0, c0 + c1)) (hk : (P.cellsOf f0.type, P.cellsOf f1.type, P.cellsOf f2.type) = (c0, c1, c2)) (h0 : Opens P f0.type R0) (h1 : Opens P f1.type R1) (h2 : Opens P f2.type R2) : Opens P t (tripR R0 R1 R2) := by
  intro H enc w base spare held n cs y h
  obtain ⟨xs, m, _, _, hl, hlen, hf⟩ := DataW.trod_struct ht h
  injection ho with o0 ho
  injection ho with o1 o2
  injection hk with k0 hk
  injection hk with k1 k2
  match xs, hlen with
  | [y0, y1, y2], _ =>
    have q0 := hf 0 f0 rfl
    have q1 := hf 1 f1 rfl
    have q2 := hf 2 f2 rfl
    simp only [List.getElem?_cons_zero, List.getElem?_cons_succ] at q0 q1 q2
    rw [o0, k0, List.drop_zero] at q0
    rw [o1, k1] at q1
    rw [o2, k2] at q2
    obtain ⟨x0, r0⟩ := h0 enc w base spare held m _ _ q0
    obtain ⟨x1, r1⟩ := h1 enc w base spare held m _ _ q1
    obtain ⟨x2, r2⟩ := h2 enc w base spare held m _ _ q2
    rw [hc] at hl
    have e2 : (cs.drop (c0 + c1)).take c2 = cs.drop (c0 + c1) := List.take_of_length_le (by rw [List.length_drop]; omega)
    rw [e2] at r2
    refine ⟨(x0, x1, x2), _, _, _, r0, r1, r2, ?_⟩
    have e : cs.drop (c0 + c1) = (cs.drop c0).drop c1 := by rw [List.drop_drop]
    rw [e, List.append_assoc, List.take_append_drop, List.take_append_drop]
theorem opens_stS {P : Program} {t : TypeId} {f0 f1 : Field} (ht : P.underlying t = some (.struct #[f0, f1])) (hc : P.cellsOf t = 1 + 4) (o0 : f0.offset = 0) (o1 : f1.offset = 1)
    (k0 : P.cellsOf f0.type = 1) (k1 : P.cellsOf f1.type = 4) (h0 : P.underlying f0.type = some (.int .i64)) (hb : Opens P f1.type bxR) : Opens P t stR := opens_st ht hc o0 o1 k0 k1 h0 hb
theorem opens_fl {P : Program} {t : TypeId} (h : Opens P t (tripR (slR verbK 2) intR (tripR ptR ptR (slR stR 5)))) : Opens P t flR :=
  h.mono fun w x us ⟨u0, u1, u2, r0, r1, ⟨v0, v1, v2, s0, s1, s2, e2⟩, e⟩ => by
    obtain ⟨A1, c1, e0, p1, _, p2, p3, p4⟩ := r0
    obtain ⟨A2, c2, e3, q1, _, q2, q3, q4⟩ := s2
    have e1 : u1 = [.int .i64 x.2.1] := r1
    have d0 : v0 = [.int .i64 x.2.2.1.1, .int .i64 x.2.2.1.2] := s0
    have d1 : v1 = [.int .i64 x.2.2.2.1.1, .int .i64 x.2.2.2.1.2] := s1
    subst e0 e1 e3 d0 d1 e2
    exact ⟨x, A1, c1, A2, c2, e, p1, ⟨p4, p2, p3⟩, q1, ⟨q4, q2, q3⟩⟩
/-- What is read as a scene. -/
def scR : World → Int × Int × List FlD → List Value → Prop := fun w x us => ∃ A cap, us = [.int .i64 x.1, .int .i64 x.2.1, .slice A x.2.2.length cap] ∧ Fls w A x.2.2 ∧ SlOk A x.2.2.length cap
theorem opens_sc {P : Program} {t : TypeId} (h : Opens P t (tripR intR intR (slR flR 7))) : Opens P t scR :=
  h.mono fun w x us ⟨u0, u1, u2, r0, r1, r2, e⟩ => by
    obtain ⟨A, cap, e2, p1, _, p2, p3, p4⟩ := r2
    have e0 : u0 = [.int .i64 x.1] := r0
    have e1 : u1 = [.int .i64 x.2.1] := r1
    subst e0 e1 e2
    exact ⟨x, A, cap, e, p1, ⟨p4, p2, p3⟩⟩
end Go.Proofs.YtagmnbphbakikaaGreat
