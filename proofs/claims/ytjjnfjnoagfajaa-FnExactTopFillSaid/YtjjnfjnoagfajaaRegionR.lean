/-
  A drawn region within a round of a loop over a function.
-/
import Derived.RangeFuncNested
import Derived.OrdersIn
import Derived.Test.YtjjnfjnoagfajaaMg1
namespace Go.Proofs.Ytjjnfjnoagfajaa.Reg
open Go Go.RowKit
/-- No way out but by the end. -/
def OnlyN (Q : Exit → Act → World → Prop) : Exit → Act → World → Prop
  | .normal, a, w => Q .normal a w
  | _, _, _ => False
section
variable {P : Program} {ops : Array Oper}
def noDefer (ops : Array Oper) : Bool := ops.all fun o => match o.op with
  | .defer _ => false
  | _ => true
theorem noDefer_at (h : noDefer ops = true) {i : Nat} {o : Oper} (ho : ops[i]? = some o) : ∀ c, o.op ≠ .defer c := by
  intro c hc
  obtain ⟨hi, rfl⟩ := Array.getElem?_eq_some_iff.1 ho
  unfold noDefer at h
  rw [Array.all_eq_true] at h
  have := h i hi
  rw [hc] at this
  cases this
theorem rowsIn_of {l n : Nat} {row : String} {args : Array Value} {w : World} {R : Value → World → Prop} (h : Rows P row args w R) : RowsIn (Fence.wide.inRound l) n P row args w R := by
  intro c cs _
  obtain ⟨v, w', r, s⟩ := h c cs
  exact ⟨v, w', r, stepsIn_wide.2 s⟩
theorem wpOpIn_of {l n i : Nat} {Q : Exit → Act → World → Prop} {K : Act → World → Prop} {a : Act} {w : World} (hnd : noDefer ops = true) (h : wpOp P ops (OnlyN Q) i K a w) : wpOpIn (Fence.wide.inRound l) n P ops Q i K a w := by
  unfold wpOp at h
  unfold wpOpIn
  cases ho : ops[i]? with
  | none => simp only [ho] at h ⊢; exact h
  | some o =>
    simp only [ho] at h ⊢
    split
    · rename_i hw
      simp only [hw, if_true] at h
      rcases h with h | ⟨_, a', w', hq⟩
      · unfold Oper.wpIn
        refine ⟨fun _ _ => trivial, ?_⟩
        unfold Oper.wp at h
        rw [Oper.semAt_eq _ _ _ (noDefer_at hnd ho)]
        generalize (execOp a.eval o).run P w = r at *
        cases r with
        | ok x w' =>
          cases x <;> simp only [Oper.upon, Oper.uponIn] at h ⊢ <;> first
            | exact h
            | exact h.elim
            | exact ⟨fun e => (by cases e), CallsIn.inRound l (callsIn_wide.2 (Calls.mono h (fun e w'' he => by cases e <;> first | exact he | exact he.elim | (obtain ⟨_, _, hq⟩ := he; exact hq.elim))))⟩
            | exact ⟨fun e => (by cases e), rowsIn_of h⟩
        | halt x w' => cases x <;> simp only [Oper.upon, Oper.uponIn] at h ⊢ <;> first | exact h | exact h.elim
      · exact hq.elim
    · rename_i hw
      simp only [hw] at h
      exact ⟨fun _ _ => trivial, h⟩
theorem wpAnyIn_of {l n : Nat} {Q : Exit → Act → World → Prop} (hnd : noDefer ops = true) : ∀ (fuel : Nat) (listed : Array Bool) (a : Act) (w : World), wpAny P .any ops (OnlyN Q) fuel listed a w → wpAnyIn (Fence.wide.inRound l) n P .any ops Q fuel listed a w
  | 0, _, _, _, h => h
  | fuel + 1, _, _, _, h => ⟨h.1, fun i hi => wpOpIn_mono (fun a' w' h' => wpAnyIn_of hnd fuel _ a' w' h') (wpOpIn_of hnd (h.2 i hi))⟩
/-- **The rule, in a round.** -/
theorem wpIn_region_calm {r n : Nat} {id : Nat} {Q : Exit → Act → World → Prop} {a : Act} {w : World} {l : List Oper} (calm late : List Nat) (hm : P.follows .mixedOrders = true) (hB : regionB l.toArray calm late = true) (hnd : noDefer l.toArray = true)
    (h : wpCalm P w.drew l.toArray (fun a' => ∀ w', Cls w.drew w' → wpLate P w.drew l.toArray (fun j => calm.contains j || keepsOf l.toArray calm j) (OnlyN Q) late a' w') calm a) : (Code.region id l.toArray true).wpIn (Fence.wide.inRound r) n P Q a w := by
  refine wpIn_region_any hm (wpAnyIn_of hnd _ _ _ _ ?_)
  simp only [regionB, Bool.and_eq_true, beq_iff_eq] at hB
  obtain ⟨⟨⟨h1, h2⟩, h3⟩, h4⟩ := hB
  refine wpAny_of_wpE (w0 := w.drew) (keeps := fun j => calm.contains j || keepsOf l.toArray calm j) _ _ _ _ ?_
  rw [h2]
  refine wpE_calm h1 calm late.length _ a w.drew (by rw [← h2]; exact down_init _) (Below.refl _ _) (by rw [← h2]; exact h3) ?_
  have mono : ∀ (c : List Nat) (a : Act) (K K' : Act → Prop), (∀ a, K a → K' a) → wpCalm P w.drew l.toArray K c a → wpCalm P w.drew l.toArray K' c a := by
    intro c
    induction c with
    | nil => intro a K K' hk h; exact hk _ h
    | cons i c ih =>
      intro a K K' hk h
      simp only [wpCalm] at h ⊢
      cases hi : l.toArray[i]? with
      | none => simp only [hi] at h
      | some o =>
        simp only [hi] at h ⊢
        obtain ⟨v, hy, hK⟩ := h
        exact ⟨v, hy, ih _ K K' hk hK⟩
  exact mono calm a _ _ (fun a' h' w' hw' => wpE_late late _ a' w' (by rw [← h2]; exact h4) (h' w' hw')) h
end
end Go.Proofs.Ytjjnfjnoagfajaa.Reg
