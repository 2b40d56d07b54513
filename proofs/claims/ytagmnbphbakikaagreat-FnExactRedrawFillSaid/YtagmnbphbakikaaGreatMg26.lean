/-
  Several texts in one: RegionT, RegionJ.
-/
import Derived.Test.YtagmnbphbakikaaGreatMg25
namespace Go.Proofs.YtagmnbphbakikaaGreat.Reg
open Go Go.RowKit
section
variable {P : Program} {ops : Array Oper} {w0 : World}

/-- The act in which each late operation's slot holds a value of its own. -/
def canon (a0 : Act) (lates : List (Nat × Option Tmp)) (vals : Nat → Value) : Act := lates.foldl (fun a x => a.put x.2 (vals x.1)) a0
def upd (vals : Nat → Value) (i : Nat) (v : Value) : Nat → Value := fun j => if j = i then v else vals j

theorem upd_same (vals : Nat → Value) (i : Nat) (v : Value) : upd vals i v i = v := by simp [upd]
theorem upd_ne {vals : Nat → Value} {i j : Nat} {v : Value} (h : j ≠ i) : upd vals i v j = vals j := by simp [upd, h]
theorem put_put (a : Act) (x : Option Tmp) (u v : Value) : (a.put x u).put x v = a.put x v := by
  cases x with
  | none => rfl
  | some d => simp [Act.put]
theorem put_self (a : Act) (x : Option Tmp) : ∃ v, a.put x v = a := by
  cases x with
  | none => exact ⟨undef, rfl⟩
  | some d =>
    refine ⟨a.tmps.getD d undef, ?_⟩
    obtain ⟨t, ds⟩ := a
    simp only [Act.put]
    congr 1
    apply Array.ext (by simp)
    intro i h1 h2
    by_cases hi : i = d
    · subst hi; simp at h1; simp [h1]
    · exact Array.getElem_setIfInBounds_ne h2 (Ne.symm hi)
/-- Slots apart from one another, indexes too. -/
def apartL : List (Nat × Option Tmp) → Bool
  | [] => true
  | x :: l => l.all (fun y => y.1 != x.1 && (x.2.isNone || y.2 != x.2)) && apartL l
theorem canon_put_comm (a : Act) (x : Option Tmp) (v : Value) : ∀ (l : List (Nat × Option Tmp)) (vals : Nat → Value), (∀ y ∈ l, x = none ∨ y.2 ≠ x) → (canon a l vals).put x v = canon (a.put x v) l vals
  | [], _, _ => rfl
  | y :: l, vals, h => by
    have hy := h y List.mem_cons_self
    have e : (a.put y.2 (vals y.1)).put x v = (a.put x v).put y.2 (vals y.1) := by
      rcases hy with rfl | hy
      · rfl
      · exact Act.put_comm a _ _ (fun d hd hd' => hy (hd.trans hd'.symm))
    show (canon (a.put y.2 (vals y.1)) l vals).put x v = canon ((a.put x v).put y.2 (vals y.1)) l vals
    rw [canon_put_comm _ x v l vals (fun z hz => h z (List.mem_cons_of_mem _ hz)), e]
theorem canon_congr : ∀ (l : List (Nat × Option Tmp)) (a : Act) (vals vals' : Nat → Value), (∀ y ∈ l, vals y.1 = vals' y.1) → canon a l vals = canon a l vals'
  | [], _, _, _, _ => rfl
  | y :: l, a, vals, vals', h => by
    show canon (a.put y.2 (vals y.1)) l vals = canon (a.put y.2 (vals' y.1)) l vals'
    rw [h y List.mem_cons_self]
    exact canon_congr l _ _ _ fun z hz => h z (List.mem_cons_of_mem _ hz)
theorem canon_put : ∀ (l : List (Nat × Option Tmp)) (a : Act) (vals : Nat → Value), apartL l = true → ∀ x ∈ l, ∀ v, (canon a l vals).put x.2 v = canon a l (upd vals x.1 v)
  | [], _, _, _, x, hx, _ => by cases hx
  | y :: l, a, vals, h, x, hx, v => by
    simp only [apartL, Bool.and_eq_true, List.all_eq_true] at h
    rcases List.mem_cons.1 hx with rfl | hx
    · have hne : ∀ z ∈ l, x.2 = none ∨ z.2 ≠ x.2 := fun z hz => by
        have := h.1 z hz
        simp only [Bool.and_eq_true, bne_iff_ne, ne_eq, Bool.or_eq_true, Option.isNone_iff_eq_none] at this
        exact this.2
      show (canon (a.put x.2 (vals x.1)) l vals).put x.2 v = canon (a.put x.2 (upd vals x.1 v x.1)) l (upd vals x.1 v)
      rw [canon_put_comm _ _ _ _ _ hne, put_put, upd_same]
      refine canon_congr l _ _ _ fun z hz => (upd_ne ?_).symm
      have := h.1 z hz
      simp only [Bool.and_eq_true, bne_iff_ne] at this
      exact this.1
    · show (canon (a.put y.2 (vals y.1)) l vals).put x.2 v = canon (a.put y.2 (upd vals x.1 v y.1)) l (upd vals x.1 v)
      rw [canon_put l _ vals h.2 x hx v, upd_ne]
      intro he
      have := h.1 x hx
      simp only [Bool.and_eq_true, bne_iff_ne] at this
      exact this.1 he.symm
theorem canon_self : ∀ (l : List (Nat × Option Tmp)) (a : Act), apartL l = true → ∃ vals, canon a l vals = a
  | [], _, _ => ⟨fun _ => undef, rfl⟩
  | y :: l, a, h => by
    simp only [apartL, Bool.and_eq_true, List.all_eq_true] at h
    obtain ⟨vals, hv⟩ := canon_self l a h.2
    obtain ⟨v, he⟩ := put_self a y.2
    refine ⟨upd vals y.1 v, ?_⟩
    show canon (a.put y.2 (upd vals y.1 v y.1)) l (upd vals y.1 v) = a
    rw [upd_same, he]
    refine (canon_congr l a _ vals fun z hz => upd_ne ?_).trans hv
    have := h.1 z hz
    simp only [Bool.and_eq_true, bne_iff_ne] at this
    exact this.1

/-- The late operations' check: their slots are as told and apart, each waits only for what comes before it, all others are listed. -/
def lateOk (ops : Array Oper) (listed : Array Bool) (lates : List (Nat × Option Tmp)) : Bool :=
  apartL lates && lates.all (fun x => decide (((ops[x.1]?).map (·.dst)) = some x.2)) && (ops.size == listed.size) &&
  (List.range ops.size).all (fun i => listed.getD i false || lates.any (fun x => x.1 == i)) &&
  (List.range ops.size).all (fun i => match ops[i]? with
    | some o => o.after.all (fun e => !Region.binds .any e || decide (e.on < i))
    | none => true)

/-- Something is ready while something is not listed. -/
theorem ready_some {listed : Array Bool} (ht : (List.range ops.size).all (fun i => match ops[i]? with
    | some o => o.after.all (fun e => !Region.binds .any e || decide (e.on < i))
    | none => true) = true) (hs : ops.size = listed.size) (h : Region.ready .any ops listed = []) : ∀ i, i < ops.size → listed.getD i false = true := by
  intro i
  induction i using Nat.strongRecOn with
  | _ i ih =>
    intro hi
    cases hl : listed.getD i false with
    | true => rfl
    | false =>
      exfalso
      have hmem : i ∈ Region.ready .any ops listed := by
        have ho : ops[i]? = some ops[i] := by simp [hi]
        refine mem_ready.2 ⟨?_, ops[i], ho, ?_⟩
        · have : i < listed.size := by omega
          simp [this] at hl ⊢
          exact hl
        · intro e he hb
          have h1 := List.all_eq_true.1 ht i (List.mem_range.2 hi)
          rw [ho] at h1
          have h2 := Array.all_eq_true'.1 h1 e he
          rw [hb] at h2
          have h3 : e.on < i := by simpa using h2
          exact ih e.on h3 (by omega)
      rw [h] at hmem
      cases hmem

/-- **THE RULE with an invariant** J over what is listed, the values and the world. -/
theorem wpE_inv {keeps : Nat → Bool} {Q : Exit → Act → World → Prop} {a0 : Act} {lates : List (Nat × Option Tmp)} {listed0 : Array Bool} (hB : lateOk ops listed0 lates = true) (J : Array Bool → (Nat → Value) → World → Prop)
    (hJ : ∀ listed vals w w', J listed vals w → Ext w w' → J listed vals w')
    (hstep : ∀ x ∈ lates, ∀ listed vals w, Down ops listed → Cls w0 w → x.1 ∈ Region.ready .any ops listed → J listed vals w →
      wpOp P ops (NoP Q) x.1 (fun a' w' => ∃ v, Cls w0 w' ∧ a' = (canon a0 lates vals).put x.2 v ∧ J (listed.setIfInBounds x.1 true) (upd vals x.1 v) w') (canon a0 lates vals) w)
    (hend : ∀ listed vals w, (∀ i, i < ops.size → listed.getD i false = true) → Cls w0 w → J listed vals w → Q .normal (canon a0 lates vals) w) :
    ∀ (fuel : Nat) (listed : Array Bool) (vals : Nat → Value) (w : World), Down ops listed → listed.size = listed0.size → (∀ i, listed0.getD i false = true → listed.getD i false = true) → (ops.size ≤ fuel + (listed.toList.countP id)) → Cls w0 w → J listed vals w →
      wpE P w0 ops keeps Q fuel listed (canon a0 lates vals) w := by
  simp only [lateOk, Bool.and_eq_true, List.all_eq_true, beq_iff_eq] at hB
  obtain ⟨⟨⟨⟨h1, h2⟩, h3⟩, h4⟩, h5⟩ := hB
  have h5' := List.all_eq_true.2 h5
  intro fuel
  induction fuel with
  | zero =>
    intro listed vals w hd hsz hge hn hC hj
    have hall : ∀ i, i < ops.size → listed.getD i false = true := by
      intro i hi
      have hc := List.countP_le_length (p := id) (l := listed.toList)
      have hl : listed.toList.length = listed.size := by simp
      have he : listed.toList.countP id = listed.toList.length := by omega
      rw [List.countP_eq_length] at he
      have hi' : i < listed.size := by omega
      have := he (listed[i]) (by simp)
      simp [hi']
      simpa using this
    refine ⟨?_, fun w' hx => hend listed vals w' hall (Cls.ext hC hx) (hJ _ _ _ _ hj hx)⟩
    cases hr : Region.ready .any ops listed with
    | nil => rfl
    | cons i l =>
      exfalso
      have hm : i ∈ Region.ready .any ops listed := by rw [hr]; exact List.mem_cons_self
      obtain ⟨hu, o, ho, _⟩ := mem_ready.1 hm
      have hi := (Array.getElem?_eq_some_iff.1 ho).1
      have := hall i hi
      have hi' : i < listed.size := by omega
      simp [hi'] at hu this
      rw [hu] at this; cases this
  | succ fuel ih =>
    intro listed vals w hd hsz hge hn hC hj w' hx
    refine ⟨fun h0 => hend listed vals w' (ready_some h5' (by omega) h0) (Cls.ext hC hx) (hJ _ _ _ _ hj hx), fun i hi => ?_⟩
    obtain ⟨hu, o, ho, _⟩ := mem_ready.1 hi
    have hio := (Array.getElem?_eq_some_iff.1 ho).1
    have hil : i < listed.size := by omega
    have hnl : listed0.getD i false = false := by
      cases hq : listed0.getD i false with
      | false => rfl
      | true =>
        have := hge i hq
        simp [hil] at hu this
        rw [hu] at this; cases this
    have h6 := h4 i (List.mem_range.2 hio)
    rw [hnl, Bool.false_or, List.any_eq_true] at h6
    obtain ⟨x, hxm, hxi⟩ := h6
    obtain rfl : x.1 = i := by simpa using hxi
    refine wpOp_mono ?_ (hstep x hxm listed vals w' hd (Cls.ext hC hx) hi (hJ _ _ _ _ hj hx))
    rintro a' w'' ⟨v, hC', rfl, hj'⟩
    refine ⟨fun _ => hC', ?_⟩
    rw [canon_put lates a0 vals h1 x hxm v]
    refine ih _ _ _ (hd.set hi) (by simp [hsz]) (fun k hk => getD_set_true (hge k hk)) ?_ hC' hj'
    have hu' : listed[x.1] = false := by simpa [hil] using hu
    have e : listed.toList.countP id + 1 = (listed.setIfInBounds x.1 true).toList.countP id := by
      have hlt : x.1 < listed.toList.length := by simpa using hil
      have e1 : (listed.setIfInBounds x.1 true).toList = listed.toList.set x.1 true := by simp
      have e2 : listed.toList = listed.toList.take x.1 ++ listed.toList[x.1] :: listed.toList.drop (x.1 + 1) := by
        rw [← List.drop_eq_getElem_cons hlt, List.take_append_drop]
      have e3 : listed.toList.set x.1 true = listed.toList.take x.1 ++ true :: listed.toList.drop (x.1 + 1) := List.set_eq_take_append_cons_drop.trans (by rw [if_pos hlt])
      rw [e1, e3]
      conv => lhs; rw [e2]
      have : listed.toList[x.1] = false := by simpa using hu'
      rw [this]
      simp [List.countP_cons]
      omega
    omega

/-- What a late operation i must bring: from the facts of those it waits for, its own. -/
def TameOp (P : Program) (w0 : World) (ops : Array Oper) (Q : Exit → Act → World → Prop) (a0 : Act) (lates : List (Nat × Option Tmp)) (F : Nat → Value → World → Prop) (x : Nat × Option Tmp) : Prop :=
  ∀ (vals : Nat → Value) (w : World), Cls w0 w → (∀ y ∈ lates, waits ops x.1 y.1 = true → F y.1 (vals y.1) w) →
    wpOp P ops (NoP Q) x.1 (fun a' w' => ∃ v, Ext w w' ∧ a' = (canon a0 lates vals).put x.2 v ∧ F x.1 v w') (canon a0 lates vals) w
theorem tame_op {Q : Exit → Act → World → Prop} {a0 : Act} {lates : List (Nat × Option Tmp)} {F : Nat → Value → World → Prop} {i : Nat} {d : Option Tmp} {o : Oper} (hi : ops[i]? = some o) (hw : ∀ vals : Nat → Value, Region.wanted o (yielded ops (canon a0 lates vals).tmps) = true)
    (h : ∀ (vals : Nat → Value) (w : World), Cls w0 w → (∀ y ∈ lates, waits ops i y.1 = true → F y.1 (vals y.1) w) → ∀ K : Act → World → Prop, (∀ a' v w', a' = (canon a0 lates vals).put d v → Ext w w' → F i v w' → K a' w') → o.wp P (canon a0 lates vals) w K (NoP Q)) :
    TameOp P w0 ops Q a0 lates F (i, d) := by
  intro vals w hC hn
  unfold wpOp
  simp only [hi, hw, if_true]
  exact .inl (h vals w hC hn _ fun a' v w' ha hx hf => ⟨v, hx, ha, hf⟩)
theorem wpE_tame {keeps : Nat → Bool} {Q : Exit → Act → World → Prop} {a0 : Act} (lates : List (Nat × Option Tmp)) {listed0 : Array Bool} {fuel : Nat} {w : World} (hB : lateOk ops listed0 lates = true) (hn : decide (ops.size ≤ fuel + listed0.toList.countP id) = true)
    (hd : Down ops listed0) (hno : lates.all (fun x => !listed0.getD x.1 false) = true) (F : Nat → Value → World → Prop) (hF : ∀ i v w w', F i v w → Ext w w' → F i v w') (hC : Cls w0 w)
    (hop : ∀ x ∈ lates, TameOp P w0 ops Q a0 lates F x) (hend : ∀ (vals : Nat → Value) (w' : World), Cls w0 w' → (∀ x ∈ lates, F x.1 (vals x.1) w') → Q .normal (canon a0 lates vals) w') :
    wpE P w0 ops keeps Q fuel listed0 a0 w := by
  have hB' := hB
  simp only [lateOk, Bool.and_eq_true, List.all_eq_true, beq_iff_eq] at hB'
  obtain ⟨⟨⟨⟨h1, h2⟩, h3⟩, h4⟩, h5⟩ := hB'
  obtain ⟨vals0, hv0⟩ := canon_self lates a0 h1
  have := wpE_inv (P := P) (w0 := w0) (keeps := keeps) (Q := Q) (a0 := a0) hB (fun listed vals w => ∀ x ∈ lates, listed.getD x.1 false = true → F x.1 (vals x.1) w) (fun listed vals w w' h hx x hm hl => hF _ _ _ _ (h x hm hl) hx)
    (fun x hx listed vals w hdn hC hr hj => ?_) (fun listed vals w hall hC hj => hend vals w hC fun x hm => hj x hm (hall x.1 ?_)) fuel listed0 vals0 w hd rfl (fun _ h => h) (by simpa using hn) hC (fun x hm hl => ?_)
  · rw [hv0] at this; exact this
  · refine wpOp_mono ?_ (hop x hx vals w hC (fun y hy hwt => hj y hy (waits_listed hdn hr hwt)))
    rintro a' w' ⟨v, hx', ha, hf⟩
    refine ⟨v, Cls.ext hC hx', ha, fun y hy hl => ?_⟩
    by_cases he : y.1 = x.1
    · rw [he, upd_same]; exact hf
    · rw [upd_ne he]
      rw [getD_set_ne false (Ne.symm he)] at hl
      exact hF _ _ _ _ (hj y hy hl) hx'
  · have := h2 x hm
    simp only [decide_eq_true_eq] at this
    cases ho : ops[x.1]? with
    | none => rw [ho] at this; cases this
    | some o => exact (Array.getElem?_eq_some_iff.1 ho).1
  · exfalso
    have := List.all_eq_true.1 hno x hm
    rw [hl] at this; cases this
/-- The lists of the calm operations, listed, are closed. -/
def downB (ops : Array Oper) (listed : Array Bool) : Bool := (List.range ops.size).all fun j => !listed.getD j false || match ops[j]? with
  | some o => o.after.all fun e => !Region.binds .any e || listed.getD e.on false
  | none => true
theorem down_of {listed : Array Bool} (h : downB ops listed = true) : Down ops listed := by
  intro j o ho hl e he hb
  have h1 := List.all_eq_true.1 h j (List.mem_range.2 (Array.getElem?_eq_some_iff.1 ho).1)
  rw [ho, hl] at h1
  simp only [Bool.not_true, Bool.false_or] at h1
  have h2 := Array.all_eq_true'.1 h1 e he
  rw [hb] at h2
  simpa using h2
/-- The whole check. -/
def tameB (ops : Array Oper) (calm : List Nat) (lates : List (Nat × Option Tmp)) : Bool :=
  regionO ops calm lates.length && lateOk ops (listAll (Array.replicate ops.size false) calm) lates && decide (ops.size ≤ lates.length + (listAll (Array.replicate ops.size false) calm).toList.countP id) &&
  downB ops (listAll (Array.replicate ops.size false) calm) && lates.all (fun x => !(listAll (Array.replicate ops.size false) calm).getD x.1 false)
/-- **THE RULE for late operations that only add new blocks**: behind the calm ones a fact for each. -/
theorem wp_region_tame {id : Nat} {Q : Exit → Act → World → Prop} {a : Act} {w : World} {l : List Oper} (calm : List Nat) (lates : List (Nat × Option Tmp)) (hm : P.follows .mixedOrders = true) (hB : tameB l.toArray calm lates = true)
    (F : Nat → Value → World → Prop) (hF : ∀ i v w w', F i v w → Ext w w' → F i v w')
    (h : wpCalm P w.drew l.toArray (fun a' => (∀ x ∈ lates, TameOp P w.drew l.toArray Q a' lates F x) ∧ ∀ (vals : Nat → Value) (w' : World), Ext w w' → (∀ x ∈ lates, F x.1 (vals x.1) w') → ∀ K : Act → Prop, (∀ a, Q .normal a w' → K a) → K (canon a' lates vals)) calm a) : (Code.region id l.toArray true).wp P Q a w := by
  simp only [tameB, Bool.and_eq_true] at hB
  obtain ⟨⟨⟨⟨h1, h2⟩, h3⟩, h4⟩, h5⟩ := hB
  refine wp_region_open calm lates.length hm h1 ?_
  have mono : ∀ (c : List Nat) (a : Act) (K K' : Act → Prop), (∀ a, K a → K' a) → wpCalm P w.drew l.toArray K c a → wpCalm P w.drew l.toArray K' c a := by
    intro c
    induction c with
    | nil => intro a K K' hk h; exact hk _ h
    | cons i c ih =>
      intro a K K' hk h
      simp only [wpCalm] at h ⊢
      cases hi : l.toArray[i]? with
      | none => simp only [hi] at h
      | some o =>
        simp only [hi] at h ⊢
        obtain ⟨v, hy, hK⟩ := h
        exact ⟨v, hy, ih _ K K' hk hK⟩
  refine mono calm a _ _ (fun a' h' w' hw' => ?_) h
  exact wpE_tame lates h2 h3 (down_of h4) h5 F hF hw' h'.1 (fun vals w'' hC hf => h'.2 vals w'' (Below.trans (Below.refl _ w).drew hC) hf (fun a => Q .normal a w'') fun _ h => h)
end
end Go.Proofs.YtagmnbphbakikaaGreat.Reg
namespace Go.Proofs.YtagmnbphbakikaaGreat.Reg
open Go Go.RowKit
section
variable {P : Program} {ops : Array Oper} {w0 : World}
theorem ready_unlisted {listed : Array Bool} {i : Nat} (hi : i ∈ Region.ready .any ops listed) : listed.getD i false = false := by
  have hu := (mem_ready.1 hi).1
  cases h : listed.getD i false with
  | false => rfl
  | true =>
    have hil : i < listed.size := by
      rcases Nat.lt_or_ge i listed.size with h1 | h1
      · exact h1
      · simp [h1] at h
    simp [hil] at hu h
    rw [hu] at h; cases h
/-- What the late operation i must bring under the invariant J. -/
def StepJ (P : Program) (w0 : World) (ops : Array Oper) (Q : Exit → Act → World → Prop) (a0 : Act) (lates : List (Nat × Option Tmp)) (J : Array Bool → (Nat → Value) → World → Prop) (x : Nat × Option Tmp) : Prop :=
  ∀ (listed : Array Bool) (vals : Nat → Value) (w : World), Cls w0 w → listed.getD x.1 false = false → (∀ y, waits ops x.1 y = true → listed.getD y false = true) → J listed vals w →
    wpOp P ops (NoP Q) x.1 (fun a' w' => ∃ v, Cls w0 w' ∧ a' = (canon a0 lates vals).put x.2 v ∧ J (listed.setIfInBounds x.1 true) (upd vals x.1 v) w') (canon a0 lates vals) w
theorem step_op {Q : Exit → Act → World → Prop} {a0 : Act} {lates : List (Nat × Option Tmp)} {J : Array Bool → (Nat → Value) → World → Prop} {i : Nat} {d : Option Tmp} {o : Oper} (hi : ops[i]? = some o) (hw : ∀ vals : Nat → Value, Region.wanted o (yielded ops (canon a0 lates vals).tmps) = true)
    (h : ∀ (listed : Array Bool) (vals : Nat → Value) (w : World), Cls w0 w → listed.getD i false = false → (∀ y, waits ops i y = true → listed.getD y false = true) → J listed vals w →
      ∀ K : Act → World → Prop, (∀ a' v w', a' = (canon a0 lates vals).put d v → Cls w0 w' → J (listed.setIfInBounds i true) (upd vals i v) w' → K a' w') → o.wp P (canon a0 lates vals) w K (NoP Q)) :
    StepJ P w0 ops Q a0 lates J (i, d) := by
  intro listed vals w hC hl hn hj
  unfold wpOp
  simp only [hi, hw, if_true]
  exact .inl (h listed vals w hC hl hn hj _ fun a' v w' ha hx hf => ⟨v, hx, ha, hf⟩)
theorem wpE_invJ {keeps : Nat → Bool} {Q : Exit → Act → World → Prop} {a0 : Act} (lates : List (Nat × Option Tmp)) {listed0 : Array Bool} {fuel : Nat} {w : World} (hB : lateOk ops listed0 lates = true) (hn : decide (ops.size ≤ fuel + listed0.toList.countP id) = true)
    (hd : Down ops listed0) (J : Array Bool → (Nat → Value) → World → Prop) (hJ : ∀ listed vals w w', J listed vals w → Ext w w' → J listed vals w') (hC : Cls w0 w) (h0 : ∀ vals, J listed0 vals w)
    (hop : ∀ x ∈ lates, StepJ P w0 ops Q a0 lates J x) (hend : ∀ listed (vals : Nat → Value) (w' : World), (∀ i, i < ops.size → listed.getD i false = true) → Cls w0 w' → J listed vals w' → Q .normal (canon a0 lates vals) w') :
    wpE P w0 ops keeps Q fuel listed0 a0 w := by
  have hB' := hB
  simp only [lateOk, Bool.and_eq_true, List.all_eq_true, beq_iff_eq] at hB'
  obtain ⟨⟨⟨⟨h1, h2⟩, h3⟩, h4⟩, h5⟩ := hB'
  obtain ⟨vals0, hv0⟩ := canon_self lates a0 h1
  have := wpE_inv (P := P) (w0 := w0) (keeps := keeps) (Q := Q) (a0 := a0) hB J hJ
    (fun x hx listed vals w hdn hC hr hj => hop x hx listed vals w hC (ready_unlisted hr) (fun y hy => waits_listed hdn hr hy) hj) hend fuel listed0 vals0 w hd rfl (fun _ h => h) (by simpa using hn) hC (h0 _)
  rw [hv0] at this; exact this
/-- **THE RULE with an invariant over what is listed**, behind the calm ones. -/
theorem wp_region_invJ {id : Nat} {Q : Exit → Act → World → Prop} {a : Act} {w : World} {l : List Oper} (calm : List Nat) (lates : List (Nat × Option Tmp)) (hm : P.follows .mixedOrders = true) (hB : tameB l.toArray calm lates = true)
    (J : Array Bool → (Nat → Value) → World → Prop) (hJ : ∀ listed vals w w', J listed vals w → Ext w w' → J listed vals w')
    (h0 : ∀ vals w', J (listAll (Array.replicate l.toArray.size false) calm) vals w')
    (h : wpCalm P w.drew l.toArray (fun a' => (∀ x ∈ lates, StepJ P w.drew l.toArray Q a' lates J x) ∧ ∀ listed (vals : Nat → Value) (w' : World), Ext w w' → (∀ i, i < l.toArray.size → listed.getD i false = true) → J listed vals w' → ∀ K : Act → Prop, (∀ a, Q .normal a w' → K a) → K (canon a' lates vals)) calm a) : (Code.region id l.toArray true).wp P Q a w := by
  simp only [tameB, Bool.and_eq_true] at hB
  obtain ⟨⟨⟨⟨h1, h2⟩, h3⟩, h4⟩, h5⟩ := hB
  refine wp_region_open calm lates.length hm h1 ?_
  have mono : ∀ (c : List Nat) (a : Act) (K K' : Act → Prop), (∀ a, K a → K' a) → wpCalm P w.drew l.toArray K c a → wpCalm P w.drew l.toArray K' c a := by
    intro c
    induction c with
    | nil => intro a K K' hk h; exact hk _ h
    | cons i c ih =>
      intro a K K' hk h
      simp only [wpCalm] at h ⊢
      cases hi : l.toArray[i]? with
      | none => simp only [hi] at h
      | some o =>
        simp only [hi] at h ⊢
        obtain ⟨v, hy, hK⟩ := h
        exact ⟨v, hy, ih _ K K' hk hK⟩
  refine mono calm a _ _ (fun a' h' w' hw' => ?_) h
  exact wpE_invJ lates h2 h3 (down_of h4) J hJ hw' (fun vals => h0 vals w') h'.1 (fun listed vals w'' hl hC hf => h'.2 listed vals w'' (Below.trans (Below.refl _ w).drew hC) hl hf (fun a => Q .normal a w'') fun _ h => h)
end
end Go.Proofs.YtagmnbphbakikaaGreat.Reg
