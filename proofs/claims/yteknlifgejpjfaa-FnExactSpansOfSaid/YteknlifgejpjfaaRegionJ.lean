/-
  A region whose late operations have no forced order: the rule with an invariant over what is listed.
-/
import Derived.Test.YteknlifgejpjfaaRegionT
namespace Go.Proofs.Yteknlifgejpjfaa.Reg
open Go Go.RowKit
section
variable {P : Program} {ops : Array Oper} {w0 : World}
theorem ready_unlisted {listed : Array Bool} {i : Nat} (hi : i ∈ Region.ready .any ops listed) : listed.getD i false = false := by
  have hu := (mem_ready.1 hi).1
  cases h : listed.getD i false with
  | false => rfl
  | true =>
    have hil : i < listed.size := by
      rcases Nat.lt_or_ge i listed.size with h1 | h1
      · exact h1
      · simp [h1] at h
    simp [hil] at hu h
    rw [hu] at h; cases h
/-- What the late operation i must bring under the invariant J. -/
def StepJ (P : Program) (w0 : World) (ops : Array Oper) (Q : Exit → Act → World → Prop) (a0 : Act) (lates : List (Nat × Option Tmp)) (J : Array Bool → (Nat → Value) → World → Prop) (x : Nat × Option Tmp) : Prop :=
  ∀ (listed : Array Bool) (vals : Nat → Value) (w : World), Cls w0 w → listed.getD x.1 false = false → (∀ y, waits ops x.1 y = true → listed.getD y false = true) → J listed vals w →
    wpOp P ops (NoP Q) x.1 (fun a' w' => ∃ v, Cls w0 w' ∧ a' = (canon a0 lates vals).put x.2 v ∧ J (listed.setIfInBounds x.1 true) (upd vals x.1 v) w') (canon a0 lates vals) w
theorem step_op {Q : Exit → Act → World → Prop} {a0 : Act} {lates : List (Nat × Option Tmp)} {J : Array Bool → (Nat → Value) → World → Prop} {i : Nat} {d : Option Tmp} {o : Oper} (hi : ops[i]? = some o) (hw : ∀ vals : Nat → Value, Region.wanted o (yielded ops (canon a0 lates vals).tmps) = true)
    (h : ∀ (listed : Array Bool) (vals : Nat → Value) (w : World), Cls w0 w → listed.getD i false = false → (∀ y, waits ops i y = true → listed.getD y false = true) → J listed vals w →
      ∀ K : Act → World → Prop, (∀ a' v w', a' = (canon a0 lates vals).put d v → Cls w0 w' → J (listed.setIfInBounds i true) (upd vals i v) w' → K a' w') → o.wp P (canon a0 lates vals) w K (NoP Q)) :
    StepJ P w0 ops Q a0 lates J (i, d) := by
  intro listed vals w hC hl hn hj
  unfold wpOp
  simp only [hi, hw, if_true]
  exact .inl (h listed vals w hC hl hn hj _ fun a' v w' ha hx hf => ⟨v, hx, ha, hf⟩)
theorem wpE_invJ {keeps : Nat → Bool} {Q : Exit → Act → World → Prop} {a0 : Act} (lates : List (Nat × Option Tmp)) {listed0 : Array Bool} {fuel : Nat} {w : World} (hB : lateOk ops listed0 lates = true) (hn : decide (ops.size ≤ fuel + listed0.toList.countP id) = true)
    (hd : Down ops listed0) (J : Array Bool → (Nat → Value) → World → Prop) (hJ : ∀ listed vals w w', J listed vals w → Ext w w' → J listed vals w') (hC : Cls w0 w) (h0 : ∀ vals, J listed0 vals w)
    (hop : ∀ x ∈ lates, StepJ P w0 ops Q a0 lates J x) (hend : ∀ listed (vals : Nat → Value) (w' : World), (∀ i, i < ops.size → listed.getD i false = true) → Cls w0 w' → J listed vals w' → Q .normal (canon a0 lates vals) w') :
    wpE P w0 ops keeps Q fuel listed0 a0 w := by
  have hB' := hB
  simp only [lateOk, Bool.and_eq_true, List.all_eq_true, beq_iff_eq] at hB'
  obtain ⟨⟨⟨⟨h1, h2⟩, h3⟩, h4⟩, h5⟩ := hB'
  obtain ⟨vals0, hv0⟩ := canon_self lates a0 h1
  have := wpE_inv (P := P) (w0 := w0) (keeps := keeps) (Q := Q) (a0 := a0) hB J hJ
    (fun x hx listed vals w hdn hC hr hj => hop x hx listed vals w hC (ready_unlisted hr) (fun y hy => waits_listed hdn hr hy) hj) hend fuel listed0 vals0 w hd rfl (fun _ h => h) (by simpa using hn) hC (h0 _)
  rw [hv0] at this; exact this
/-- **THE RULE with an invariant over what is listed**, behind the calm ones. -/
theorem wp_region_invJ {id : Nat} {Q : Exit → Act → World → Prop} {a : Act} {w : World} {l : List Oper} (calm : List Nat) (lates : List (Nat × Option Tmp)) (hm : P.follows .mixedOrders = true) (hB : tameB l.toArray calm lates = true)
    (J : Array Bool → (Nat → Value) → World → Prop) (hJ : ∀ listed vals w w', J listed vals w → Ext w w' → J listed vals w')
    (h0 : ∀ vals w', J (listAll (Array.replicate l.toArray.size false) calm) vals w')
    (h : wpCalm P w.drew l.toArray (fun a' => (∀ x ∈ lates, StepJ P w.drew l.toArray Q a' lates J x) ∧ ∀ listed (vals : Nat → Value) (w' : World), Ext w w' → (∀ i, i < l.toArray.size → listed.getD i false = true) → J listed vals w' → ∀ K : Act → Prop, (∀ a, Q .normal a w' → K a) → K (canon a' lates vals)) calm a) : (Code.region id l.toArray true).wp P Q a w := by
  simp only [tameB, Bool.and_eq_true] at hB
  obtain ⟨⟨⟨⟨h1, h2⟩, h3⟩, h4⟩, h5⟩ := hB
  refine wp_region_open calm lates.length hm h1 ?_
  have mono : ∀ (c : List Nat) (a : Act) (K K' : Act → Prop), (∀ a, K a → K' a) → wpCalm P w.drew l.toArray K c a → wpCalm P w.drew l.toArray K' c a := by
    intro c
    induction c with
    | nil => intro a K K' hk h; exact hk _ h
    | cons i c ih =>
      intro a K K' hk h
      simp only [wpCalm] at h ⊢
      cases hi : l.toArray[i]? with
      | none => simp only [hi] at h
      | some o =>
        simp only [hi] at h ⊢
        obtain ⟨v, hy, hK⟩ := h
        exact ⟨v, hy, ih _ K K' hk hK⟩
  refine mono calm a _ _ (fun a' h' w' hw' => ?_) h
  exact wpE_invJ lates h2 h3 (down_of h4) J hJ hw' (fun vals => h0 vals w') h'.1 (fun listed vals w'' hl hC hf => h'.2 listed vals w'' (Below.trans (Below.refl _ w).drew hC) hl hf (fun a => Q .normal a w'') fun _ h => h)
end
end Go.Proofs.Yteknlifgejpjfaa.Reg
