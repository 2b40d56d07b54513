/-
  Several texts in one: Region, Lib, VbL, Step.
-/
import Derived.Orders
import Derived.Still
import Derived.Below
import Derived.Tactics
import Derived.Tactics2
import Derived.Deep.RegionHeld3
import Derived.WalkKit
import Derived.WalkSpells
import Derived.WalkLawsBesides
import Derived.IntWalk
import Derived.BigGuardPart
import Derived.BigQuiet
import Derived.Deep.QuietTactic
import Derived.Lib.Hide
import Derived.Laws.OwnMore
import Derived.Laws.MakeOwn
import Derived.Laws.Entries
import Derived.Laws.Rows
import Derived.Deep.Draws
import Derived.Maps.AppendAt
import Derived.OwnWalk
import Derived.Laws.Tables
import Derived.Laws.NewBlocks
namespace Go.Proofs.YtagmnbphbakikaaGreat.Reg
open Go Go.RowKit

/-- w' is w with new blocks alone. -/
abbrev Ext (w w' : World) : Prop := Below w.heap.size w w'

theorem Ext.refl (w : World) : Ext w w := Below.refl _ _
theorem Ext.trans {a b c : World} (h : Ext a b) (k : Ext b c) : Ext a c := Below.trans h (Below.mono k h.size)

/-- The class of a region that began in w0: what lay there lies there still. -/
abbrev Cls (w0 w : World) : Prop := Below w0.heap.size w0 w
theorem Cls.ext {w0 a b : World} (h : Cls w0 a) (k : Ext a b) : Cls w0 b := Below.trans h (Below.mono k h.size)

section
variable {P : Program} {ops : Array Oper} {w0 : World}

def calmUpon (P : Program) (w : World) (v : Value) : Result Next → Prop
  | .ok (.value u) w' => w' = w ∧ u = v
  | .ok .skip w' => w' = w ∧ v = undef
  | .ok (.enter f args) w' => w' = w ∧ Calls P f args w (fun e w'' => e = .returned v ∧ Below w.heap.size w w'')
  | _ => False

def calmAt (P : Program) (o : Oper) (a : Act) (w : World) (v : Value) : Prop := calmUpon P w v ((execOp a.eval o).run P w)

/-- One value in every world of the class. -/
def Calm (P : Program) (w0 : World) (ops : Array Oper) (o : Oper) (v : Value) (a : Act) : Prop :=
  (Region.wanted o (yielded ops a.tmps) = true ∧ ∀ w, Cls w0 w → calmAt P o a w v) ∨
  (Region.wanted o (yielded ops a.tmps) = false ∧ v = undef)

theorem Calm.of_same {o : Oper} {v : Value} {a a' : Act} (hy : Calm P w0 ops o v a) (he : execOp a'.eval o = execOp a.eval o)
    (hw : Region.wanted o (yielded ops a'.tmps) = Region.wanted o (yielded ops a.tmps)) : Calm P w0 ops o v a' := by
  unfold Calm calmAt at *
  rw [he, hw]
  exact hy

/-- No way out by a panic. -/
def NoP (Q : Exit → Act → World → Prop) : Exit → Act → World → Prop
  | .panic _, _, _ => False
  | e, a, w => Q e a w
theorem NoP.imp {Q : Exit → Act → World → Prop} : ∀ (e : Exit) (a : Act) (w : World), NoP Q e a w → Q e a w := fun e a w h => by
  cases e <;> first | exact h | exact h.elim

/-- Every order, what follows asked behind whatever new blocks come between. 'keeps i': operation i must leave a world of the class. -/
def wpE (P : Program) (w0 : World) (ops : Array Oper) (keeps : Nat → Bool) (Q : Exit → Act → World → Prop) : Nat → Array Bool → Act → World → Prop
  | 0, listed, a, w => Region.ready .any ops listed = [] ∧ ∀ w', Ext w w' → Q .normal a w'
  | fuel + 1, listed, a, w => ∀ w', Ext w w' →
    (Region.ready .any ops listed = [] → Q .normal a w') ∧
    ∀ i ∈ Region.ready .any ops listed, wpOp P ops (NoP Q) i (fun a' w'' => (keeps i = true → Cls w0 w'') ∧ wpE P w0 ops keeps Q fuel (listed.setIfInBounds i true) a' w'') a w'

theorem wpE_ext {keeps : Nat → Bool} {Q : Exit → Act → World → Prop} : ∀ {fuel : Nat} {listed : Array Bool} {a : Act} {w w' : World},
    wpE P w0 ops keeps Q fuel listed a w → Ext w w' → wpE P w0 ops keeps Q fuel listed a w'
  | 0, _, _, _, _, h, k => ⟨h.1, fun _ k' => h.2 _ (Ext.trans k k')⟩
  | _ + 1, _, _, _, _, h, k => fun _ k' => h _ (Ext.trans k k')

theorem wpOp_noP {Q : Exit → Act → World → Prop} {i : Nat} {K : Act → World → Prop} {a : Act} {w : World} (h : wpOp P ops (NoP Q) i K a w) : wpOp P ops Q i K a w := by
  unfold wpOp at *
  split
  · simpa [*] using h
  · rename_i o ho
    simp only [ho] at h
    split
    · rename_i hw
      simp only [hw, if_true] at h
      rcases h with h | ⟨h, a', w', hq⟩
      · left
        unfold Oper.wp at *
        generalize (execOp a.eval o).run P w = r at *
        cases r with
        | ok n w' =>
          cases n <;> simp only [Oper.upon] at h ⊢ <;> first
            | exact h
            | exact Calls.mono h (fun e w'' he => by cases e <;> first | exact he | exact he.elim | (obtain ⟨a', w3, hq⟩ := he; exact ⟨a', w3, hq⟩))
        | halt x w' => cases x <;> simp only [Oper.upon] at h ⊢ <;> first | exact h | exact h.elim
      · exact .inr ⟨h, a', w', hq⟩
    · rename_i hw; simp only [hw] at h; exact h

theorem wpAny_of_wpE {keeps : Nat → Bool} {Q : Exit → Act → World → Prop} : ∀ (fuel : Nat) (listed : Array Bool) (a : Act) (w : World),
    wpE P w0 ops keeps Q fuel listed a w → wpAny P .any ops Q fuel listed a w
  | 0, _, _, _, h => ⟨h.1, h.2 _ (Ext.refl _)⟩
  | fuel + 1, _, _, w, h => ⟨fun h0 => (h w (Ext.refl _)).1 h0, fun i hi => wpOp_mono (fun a' w' h' => wpAny_of_wpE fuel _ a' w' h'.2) (wpOp_noP ((h w (Ext.refl _)).2 i hi))⟩

theorem Calm.wpOp {Q : Exit → Act → World → Prop} {i : Nat} {o : Oper} {v : Value} {a : Act} {w : World} (hi : ops[i]? = some o) (hy : Calm P w0 ops o v a) (hw : Cls w0 w) {K : Act → World → Prop}
    (h : ∀ w', Ext w w' → K (a.put o.dst v) w') : wpOp P ops Q i K a w := by
  unfold Go.wpOp
  simp only [hi]
  rcases hy with ⟨hwt, hv⟩ | ⟨hwt, rfl⟩
  · simp only [hwt, if_true]
    left
    have h1 := hv w hw
    unfold calmAt at h1
    unfold Oper.wp
    generalize (execOp a.eval o).run P w = r at *
    cases r with
    | ok n w' =>
      cases n <;> simp only [calmUpon, Oper.upon] at h1 ⊢ <;> first
        | exact h1.elim
        | (obtain ⟨rfl, rfl⟩ := h1; exact h _ (Ext.refl _))
        | (obtain ⟨rfl, h2⟩ := h1; exact Calls.mono h2 (fun e w'' he => by obtain ⟨rfl, h3⟩ := he; exact h _ h3))
    | halt x w' => exact h1.elim
  · simp only [hwt, Bool.false_eq_true, if_false]
    exact h _ (Ext.refl _)

/-- An operation apart from a calm one. -/
theorem wpOp_put {Q : Exit → Act → World → Prop} {j : Nat} {oi oj : Oper} {v : Value} (hj : ops[j]? = some oj) (hap : oi.apart ops oj = true)
    (hsi : ∀ cs b, oi.op ≠ .select cs b) (hsj : ∀ cs b, oj.op ≠ .select cs b) {K : Act → World → Prop} {a : Act} {w : World}
    (hy : Calm P w0 ops oi v a) (h : wpOp P ops (NoP Q) j K (a.put oi.dst v) w) :
    wpOp P ops (NoP Q) j (fun a' w' => Calm P w0 ops oi v a' ∧ K (a'.put oi.dst v) w') a w := by
  obtain ⟨h1, h2, h3⟩ := Oper.apart_spec hap
  have keep : ∀ (a : Act), Calm P w0 ops oi v a → ∀ u, Calm P w0 ops oi v (a.put oj.dst u) := fun a hy u =>
    hy.of_same (execOp_put oi hsi a oj.dst u h3) (wanted_put oi a oj.dst u h3)
  have keepD : ∀ d, Calm P w0 ops oi v { a with defers := d :: a.defers } := fun d => hy.of_same rfl rfl
  unfold wpOp at *
  simp only [hj] at *
  rw [wanted_put oj a oi.dst v h1] at h
  split
  · rename_i hw
    simp only [hw, if_true] at h
    rcases h with h | ⟨h, hq⟩
    · left
      unfold Oper.wp at *
      rw [execOp_put oj hsj a oi.dst v h1] at h
      generalize (execOp a.eval oj).run P w = r at *
      cases r with
      | ok n w' =>
        cases n with
        | value u => exact ⟨keep a hy u, by rw [← Act.put_comm a v u h2]; exact h⟩
        | skip => exact ⟨keep a hy _, by rw [← Act.put_comm a v undef h2]; exact h⟩
        | defer d =>
          refine ⟨(keep _ (keepD d) _), ?_⟩
          rw [← Act.put_comm _ v undef h2, ← Act.put_defers]
          exact h
        | enter f args =>
          refine Calls.mono h (fun e w'' he => ?_)
          cases e with
          | returned u => exact ⟨keep a hy u, by rw [← Act.put_comm a v u h2]; exact he⟩
          | panicked c => exact he.elim
          | outgrown => exact he
        | row r args => exact Rows.mono h (fun u w'' he => ⟨keep a hy u, by rw [← Act.put_comm a v u h2]; exact he⟩)
        | _ => exact h.elim
      | halt x w' => cases x <;> exact h.elim
    · refine .inr ⟨?_, hq⟩
      unfold Oper.asks at *
      rwa [execOp_put oj hsj a oi.dst v h1] at h
  · rename_i hw
    simp only [hw] at h
    exact ⟨keep a hy _, by rw [← Act.put_comm a v undef h2]; exact h⟩

/-! ### who waits for whom -/

/-- What is listed has what it waits for listed. -/
def Down (ops : Array Oper) (listed : Array Bool) : Prop :=
  ∀ j o, ops[j]? = some o → listed.getD j false = true → ∀ e ∈ o.after, Region.binds .any e = true → listed.getD e.on false = true

def ancOf (acc : Array Nat) (es : List Edge) : Nat :=
  es.foldl (fun s e => if Region.binds .any e then s ||| 2 ^ e.on ||| acc.getD e.on 0 else s) 0

def ancs : List Oper → Array Nat → Array Nat
  | [], acc => acc
  | o :: l, acc => ancs l (acc.push (ancOf acc o.after.toList))

theorem ancOf_bit {acc : Array Nat} {i : Nat} : ∀ (es : List Edge) (s : Nat), (es.foldl (fun s e => if Region.binds .any e then s ||| 2 ^ e.on ||| acc.getD e.on 0 else s) s).testBit i = true →
    s.testBit i = true ∨ ∃ e ∈ es, Region.binds .any e = true ∧ (e.on = i ∨ (acc.getD e.on 0).testBit i = true)
  | [], s, h => .inl h
  | e :: es, s, h => by
    simp only [List.foldl_cons] at h
    rcases ancOf_bit es _ h with h | ⟨e', he', hb, h⟩
    · by_cases hb : Region.binds .any e = true
      · simp only [hb, if_true, Nat.testBit_or, Bool.or_eq_true] at h
        rcases h with (h | h) | h
        · exact .inl h
        · right
          refine ⟨e, List.mem_cons_self, hb, .inl ?_⟩
          rw [Nat.testBit_two_pow] at h
          simpa using h
        · exact .inr ⟨e, List.mem_cons_self, hb, .inr h⟩
      · simp only [hb] at h
        exact .inl h
    · exact .inr ⟨e', List.mem_cons_of_mem _ he', hb, h⟩

/-- Each entry so far: a bit set means: listed, wherever all that the entry waits for is. -/
def AccOk (ops : Array Oper) (listed : Array Bool) (acc : Array Nat) : Prop :=
  ∀ k o i, k < acc.size → ops[k]? = some o → (∀ e ∈ o.after, Region.binds .any e = true → listed.getD e.on false = true) → (acc.getD k 0).testBit i = true → listed.getD i false = true

theorem ancs_ok {listed : Array Bool} (hd : Down ops listed) : ∀ (l : List Oper) (acc : Array Nat), (∀ j, l[j]? = ops[acc.size + j]?) → AccOk ops listed acc → AccOk ops listed (ancs l acc)
  | [], acc, _, h => h
  | o :: l, acc, hl, h => by
    refine ancs_ok hd l _ (fun j => ?_) ?_
    · have := hl (j + 1)
      simp only [List.getElem?_cons_succ] at this
      rw [this, Array.size_push]
      congr 1; omega
    · intro k ok i hk hok hall hbit
      rcases Nat.lt_or_ge k acc.size with hlt | hge
      · refine h k ok i hlt hok hall ?_
        have : (acc.push (ancOf acc o.after.toList)).getD k 0 = acc.getD k 0 := by
          simp [Array.getElem?_push_lt hlt, hlt]
        rwa [this] at hbit
      · have hk' : k = acc.size := by rw [Array.size_push] at hk; omega
        subst hk'
        have ho : some o = ops[acc.size]? := by simpa using hl 0
        rw [hok] at ho
        injection ho with ho
        subst ho
        have hg : (acc.push (ancOf acc o.after.toList)).getD acc.size 0 = ancOf acc o.after.toList := by simp
        rw [hg] at hbit
        rcases ancOf_bit _ _ hbit with h0 | ⟨e, he, hb, h1⟩
        · simp at h0
        · have hle := hall e (by simpa using he) hb
          rcases h1 with rfl | h1
          · exact hle
          · rcases Nat.lt_or_ge e.on acc.size with hlt | hge'
            · cases hoe : ops[e.on]? with
              | none =>
                exact absurd (Array.getElem?_eq_some_iff.1 hok).1 (by have := Array.getElem?_eq_none_iff.1 hoe; omega)
              | some oe => exact h e.on oe i hlt hoe (hd e.on oe hoe hle) h1
            · simp [Array.getElem?_eq_none hge'] at h1

/-- i waits behind j's back: j can't come up while i has not. -/
def waits (ops : Array Oper) (j i : Nat) : Bool := ((ancs ops.toList #[]).getD j 0).testBit i

theorem ancs_size : ∀ (l : List Oper) (acc : Array Nat), (ancs l acc).size = acc.size + l.length
  | [], acc => by simp [ancs]
  | o :: l, acc => by simp only [ancs]; rw [ancs_size l, Array.size_push, List.length_cons]; omega

theorem waits_listed {listed : Array Bool} (hd : Down ops listed) {j i : Nat} (hj : j ∈ Region.ready .any ops listed) (h : waits ops j i = true) : listed.getD i false = true := by
  obtain ⟨_, oj, hoj, hall⟩ := mem_ready.1 hj
  have ok := ancs_ok hd ops.toList #[] (fun k => by simp) (fun k o i hk => by simp at hk)
  refine ok j oj i ?_ hoj hall h
  rw [ancs_size]; simpa using (Array.getElem?_eq_some_iff.1 hoj).1

theorem Down.set {listed : Array Bool} (hd : Down ops listed) {i : Nat} (hi : i ∈ Region.ready .any ops listed) : Down ops (listed.setIfInBounds i true) := by
  intro j o ho hl e he hb
  obtain ⟨_, oi, hoi, hall⟩ := mem_ready.1 hi
  have key : listed.getD e.on false = true := by
    by_cases hij : i = j
    · subst hij
      rw [hoi] at ho; injection ho with ho; subst ho
      exact hall e he hb
    · rw [getD_set_ne false hij] at hl
      exact hd j o ho hl e he hb
  exact getD_set_true key

theorem down_init (n : Nat) : Down ops (Array.replicate n false) := by
  intro j o _ h
  exfalso
  rcases Nat.lt_or_ge j n with hlt | hge
  · simp [hlt] at h
  · simp [hge] at h

/-- **A calm operation that may come up now may be taken first.** -/
theorem wpE_first {keeps : Nat → Bool} {Q : Exit → Act → World → Prop} {i : Nat} {oi : Oper} {v : Value} (hi : ops[i]? = some oi) (hsel : ∀ (j : Nat) (o : Oper) cs b, ops[j]? = some o → o.op ≠ .select cs b)
    (hfree : ∀ j oj, ops[j]? = some oj → j ≠ i → waits ops j i = false → waits ops i j = false → oi.apart ops oj = true ∧ keeps j = true) :
    ∀ (fuel : Nat) (listed : Array Bool) (a : Act) (w : World), Down ops listed → Cls w0 w →
      i ∈ Region.ready .any ops listed → (∀ j, waits ops i j = true → listed.getD j false = true) → Calm P w0 ops oi v a →
      wpE P w0 ops keeps Q fuel (listed.setIfInBounds i true) (a.put oi.dst v) w → wpE P w0 ops keeps Q (fuel + 1) listed a w := by
  intro fuel
  induction fuel with
  | zero =>
    intro listed a w hdn hC hr hanc hy H w' hx
    refine ⟨fun h => (by rw [h] at hr; cases hr), fun j hj => ?_⟩
    by_cases hji : j = i
    · subst hji
      exact hy.wpOp hi (Cls.ext hC hx) (fun w'' hx' => ⟨fun _ => Cls.ext (Cls.ext hC hx) hx', wpE_ext H (Ext.trans hx hx')⟩)
    · have := ready_mono hj hji
      rw [H.1] at this
      cases this
  | succ fuel ih =>
    intro listed a w hdn hC hr hanc hy H w' hx
    refine ⟨fun h => (by rw [h] at hr; cases hr), fun j hj => ?_⟩
    by_cases hji : j = i
    · subst hji
      exact hy.wpOp hi (Cls.ext hC hx) (fun w'' hx' => ⟨fun _ => Cls.ext (Cls.ext hC hx) hx', wpE_ext H (Ext.trans hx hx')⟩)
    · have h1 := (H w' hx).2 j (ready_mono hj hji)
      obtain ⟨hjun, oj, hoj, hall⟩ := mem_ready.1 hj
      have hiun := (mem_ready.1 hr).1
      have hun : ∀ k, listed.getD k true = false → ¬ listed.getD k false = true := fun k h0 h1 => by
        rcases Nat.lt_or_ge k listed.size with h' | h'
        · simp [h'] at h0 h1; rw [h0] at h1; cases h1
        · simp [Array.getElem?_eq_none h'] at h1
      have hnw : waits ops j i = false := by
        cases hwt : waits ops j i with
        | false => rfl
        | true => exact absurd (waits_listed hdn hj hwt) (hun i hiun)
      have hnw' : waits ops i j = false := by
        cases hwt : waits ops i j with
        | false => rfl
        | true => exact absurd (hanc j hwt) (hun j hjun)
      obtain ⟨hap, hkp⟩ := hfree j oj hoj hji hnw hnw'
      have h2 := wpOp_put hoj hap (fun cs b => hsel i oi cs b hi) (fun cs b => hsel j oj cs b hoj) hy h1
      refine wpOp_mono (fun a' w'' h3 => ⟨h3.2.1, ih (listed.setIfInBounds j true) a' w'' (hdn.set hj) (h3.2.1 hkp) (ready_mono hr (Ne.symm hji)) (fun k hk => getD_set_true (hanc k hk)) h3.1 ?_⟩) h2
      rw [Array.setIfInBounds_comm _ _ hji]
      exact h3.2.2

/-! ### the walk -/

/-- May operation i be taken first, these being listed? -/
def firstB (ops : Array Oper) (keeps : Nat → Bool) (listed : Array Bool) (i : Nat) : Bool :=
  (Region.ready .any ops listed).contains i && (List.range ops.size).all (fun j => !waits ops i j || listed.getD j false) &&
    match ops[i]? with
    | none => false
    | some oi => (List.range ops.size).all fun j => j == i || waits ops j i || waits ops i j || match ops[j]? with
      | some oj => oi.apart ops oj && keeps j
      | none => true

theorem waits_lt {j i : Nat} (h : waits ops j i = true) (hb : ∀ (k : Nat) (o : Oper), ops[k]? = some o → ∀ e ∈ o.after, e.on < ops.size) : i < ops.size := by
  have key : ∀ (l : List Oper) (acc : Array Nat), (∀ o ∈ l, ∀ e ∈ o.after, e.on < ops.size) → (∀ k i, (acc.getD k 0).testBit i = true → i < ops.size) → ∀ k i, ((ancs l acc).getD k 0).testBit i = true → i < ops.size := by
    intro l
    induction l with
    | nil => intro acc _ h; exact h
    | cons o l ih =>
      intro acc hl hacc
      refine ih _ (fun o' ho' => hl o' (List.mem_cons_of_mem _ ho')) ?_
      intro k i hbit
      rcases Nat.lt_trichotomy k acc.size with hlt | rfl | hgt
      · refine hacc k i ?_
        have : (acc.push (ancOf acc o.after.toList)).getD k 0 = acc.getD k 0 := by
          simp [Array.getElem?_push_lt hlt, hlt]
        rwa [this] at hbit
      · have hg : (acc.push (ancOf acc o.after.toList)).getD acc.size 0 = ancOf acc o.after.toList := by simp
        rw [hg] at hbit
        rcases ancOf_bit _ _ hbit with h0 | ⟨e, he, _, h1⟩
        · simp at h0
        · rcases h1 with rfl | h1
          · exact hl o List.mem_cons_self e (by simpa using he)
          · exact hacc _ _ h1
      · have hnone : (acc.push (ancOf acc o.after.toList))[k]? = none := Array.getElem?_eq_none (by rw [Array.size_push]; omega)
        rw [Array.getD_eq_getD_getElem?, hnone] at hbit
        simp at hbit
  refine key ops.toList #[] ?_ ?_ j i h
  · intro o ho e he
    obtain ⟨k, hk⟩ := List.getElem?_of_mem ho
    exact hb k o (by simpa using hk) e he
  · intro k i h0; simp at h0

/-- The checks of the whole region. -/
def okB (ops : Array Oper) : Bool := Region.noSelect ops && ops.all fun o => o.after.all fun e => e.on < ops.size

theorem wpE_take {keeps : Nat → Bool} {Q : Exit → Act → World → Prop} {i : Nat} {oi : Oper} {v : Value} {fuel : Nat} {listed : Array Bool} {a : Act} {w : World}
    (hok : okB ops = true) (hi : ops[i]? = some oi) (hf : firstB ops keeps listed i = true) (hd : Down ops listed) (hC : Cls w0 w) (hy : Calm P w0 ops oi v a)
    (h : Down ops (listed.setIfInBounds i true) → wpE P w0 ops keeps Q fuel (listed.setIfInBounds i true) (a.put oi.dst v) w) : wpE P w0 ops keeps Q (fuel + 1) listed a w := by
  unfold okB at hok
  simp only [Bool.and_eq_true] at hok
  have hb : ∀ (k : Nat) (o : Oper), ops[k]? = some o → ∀ e ∈ o.after, e.on < ops.size := by
    intro k o ho e he
    have h1 := Array.all_eq_true'.1 hok.2 o (Array.mem_of_getElem? ho)
    have h2 := Array.all_eq_true'.1 h1 e he
    simpa using h2
  simp only [firstB, hi, Bool.and_eq_true, List.all_eq_true, List.mem_range] at hf
  obtain ⟨⟨h1, h2⟩, h3⟩ := hf
  have hr : i ∈ Region.ready .any ops listed := by simpa using h1
  refine wpE_first hi (Region.noSelect_spec hok.1) (fun j oj hoj hne hw1 hw2 => ?_) fuel listed a w hd hC hr (fun j hj => ?_) hy (h (hd.set hr))
  · have := h3 j (Array.getElem?_eq_some_iff.1 hoj).1
    simp only [hoj, hw1, hw2, Bool.or_false, Bool.or_eq_true, beq_iff_eq, hne, false_or, Bool.and_eq_true] at this
    exact this
  · have := h2 j (waits_lt hj hb)
    simpa [hj] using this

/-- A walk over the calm operations, in the order of the list, then the rest. -/
def wpCalm (P : Program) (w0 : World) (ops : Array Oper) (K : Act → Prop) : List Nat → Act → Prop
  | [], a => K a
  | i :: l, a => match ops[i]? with
    | none => False
    | some o => ∃ v, Calm P w0 ops o v a ∧ wpCalm P w0 ops K l (a.put o.dst v)

def listAll (listed : Array Bool) : List Nat → Array Bool
  | [] => listed
  | i :: l => listAll (listed.setIfInBounds i true) l

def calmB (ops : Array Oper) (keeps : Nat → Bool) : Array Bool → List Nat → Bool
  | _, [] => true
  | listed, i :: l => firstB ops keeps listed i && calmB ops keeps (listed.setIfInBounds i true) l

theorem wpE_calm {keeps : Nat → Bool} {Q : Exit → Act → World → Prop} (hok : okB ops = true) : ∀ (l : List Nat) (fuel : Nat) (listed : Array Bool) (a : Act) (w : World), Down ops listed → Cls w0 w → calmB ops keeps listed l = true →
    wpCalm P w0 ops (fun a' => ∀ w', Cls w0 w' → wpE P w0 ops keeps Q fuel (listAll listed l) a' w') l a → wpE P w0 ops keeps Q (fuel + l.length) listed a w
  | [], _, _, _, _, _, hC, _, h => h _ hC
  | i :: l, fuel, listed, a, w, hd, hC, hB, h => by
    simp only [calmB, Bool.and_eq_true] at hB
    simp only [wpCalm] at h
    cases hi : ops[i]? with
    | none => simp only [hi] at h
    | some o =>
      simp only [hi] at h
      obtain ⟨v, hy, hK⟩ := h
      have e : fuel + (i :: l).length = (fuel + l.length) + 1 := by simp [Nat.add_assoc]
      rw [e]
      exact wpE_take hok hi hB.1 hd hC hy fun hd' => wpE_calm hok l fuel _ _ w hd' hC hB.2 hK

/-- The late operations: what they come to, one after the other; new blocks may come between. -/
def wpLate (P : Program) (w0 : World) (ops : Array Oper) (keeps : Nat → Bool) (Q : Exit → Act → World → Prop) : List Nat → Act → World → Prop
  | [], a, w => ∀ w', Ext w w' → Q .normal a w'
  | i :: l, a, w => ∀ w', Ext w w' → wpOp P ops (NoP Q) i (fun a' w'' => (keeps i = true → Cls w0 w'') ∧ wpLate P w0 ops keeps Q l a' w'') a w'

def lateB (ops : Array Oper) : Array Bool → List Nat → Bool
  | listed, [] => (Region.ready .any ops listed).isEmpty
  | listed, i :: l => (Region.ready .any ops listed == [i]) && lateB ops (listed.setIfInBounds i true) l

theorem wpE_late {keeps : Nat → Bool} {Q : Exit → Act → World → Prop} : ∀ (l : List Nat) (listed : Array Bool) (a : Act) (w : World), lateB ops listed l = true → wpLate P w0 ops keeps Q l a w → wpE P w0 ops keeps Q l.length listed a w
  | [], listed, a, w, hB, h => ⟨by simpa [lateB] using hB, h⟩
  | i :: l, listed, a, w, hB, h => fun w' hx => by
    simp only [lateB, Bool.and_eq_true, beq_iff_eq] at hB
    refine ⟨fun h0 => (by rw [hB.1] at h0; cases h0), fun j hj => ?_⟩
    rw [hB.1] at hj
    obtain rfl : j = i := by simpa using hj
    exact wpOp_mono (fun a' w'' h' => ⟨h'.1, wpE_late l _ a' w'' hB.2 h'.2⟩) (h w' hx)

/-- Which late operations must leave a world of the class: those that some calm one need not come before. -/
def keepsOf (ops : Array Oper) (calm : List Nat) (j : Nat) : Bool := !calm.all fun i => waits ops j i

def regionB (ops : Array Oper) (calm late : List Nat) : Bool :=
  okB ops && (ops.size == late.length + calm.length) && calmB ops (fun j => calm.contains j || keepsOf ops calm j) (Array.replicate ops.size false) calm && lateB ops (listAll (Array.replicate ops.size false) calm) late

/-- **THE RULE.** -/
theorem wp_region_calm {id : Nat} {Q : Exit → Act → World → Prop} {a : Act} {w : World} {l : List Oper} (calm late : List Nat) (hm : P.follows .mixedOrders = true) (hB : regionB l.toArray calm late = true)
    (h : wpCalm P w.drew l.toArray (fun a' => ∀ w', Cls w.drew w' → wpLate P w.drew l.toArray (fun j => calm.contains j || keepsOf l.toArray calm j) Q late a' w') calm a) : (Code.region id l.toArray true).wp P Q a w := by
  simp only [regionB, Bool.and_eq_true, beq_iff_eq] at hB
  obtain ⟨⟨⟨h1, h2⟩, h3⟩, h4⟩ := hB
  refine wp_region_any hm ?_
  refine wpAny_of_wpE (w0 := w.drew) (keeps := fun j => calm.contains j || keepsOf l.toArray calm j) _ _ _ _ ?_
  rw [h2]
  refine wpE_calm h1 calm late.length _ a w.drew (by rw [← h2]; exact down_init _) (Below.refl _ _) (by rw [← h2]; exact h3) ?_
  have mono : ∀ (c : List Nat) (a : Act) (K K' : Act → Prop), (∀ a, K a → K' a) → wpCalm P w.drew l.toArray K c a → wpCalm P w.drew l.toArray K' c a := by
    intro c
    induction c with
    | nil => intro a K K' hk h; exact hk _ h
    | cons i c ih =>
      intro a K K' hk h
      simp only [wpCalm] at h ⊢
      cases hi : l.toArray[i]? with
      | none => simp only [hi] at h
      | some o =>
        simp only [hi] at h ⊢
        obtain ⟨v, hy, hK⟩ := h
        exact ⟨v, hy, ih _ K K' hk hK⟩
  exact mono calm a _ _ (fun a' h' w' hw' => wpE_late late _ a' w' (by rw [← h2]; exact h4) (h' w' hw')) h

/-! ### steps -/
theorem calm_yes {K : Act → Prop} {i : Nat} {l : List Nat} {a : Act} {o : Oper} {v : Value} (hi : ops[i]? = some o) (hw : Region.wanted o (yielded ops a.tmps) = true)
    (hv : ∀ w, Cls w0 w → calmAt P o a w v) (h : ∀ K' : Act → Prop, (∀ a, wpCalm P w0 ops K l a → K' a) → K' (a.put o.dst v)) : wpCalm P w0 ops K (i :: l) a := by
  simp only [wpCalm, hi]
  exact ⟨v, .inl ⟨hw, hv⟩, h _ fun _ h => h⟩
theorem calm_no {K : Act → Prop} {i : Nat} {l : List Nat} {a : Act} {o : Oper} (hi : ops[i]? = some o) (hw : Region.wanted o (yielded ops a.tmps) = false)
    (h : ∀ K' : Act → Prop, (∀ a, wpCalm P w0 ops K l a → K' a) → K' (a.put o.dst undef)) : wpCalm P w0 ops K (i :: l) a := by
  simp only [wpCalm, hi]
  exact ⟨undef, .inr ⟨hw, rfl⟩, h _ fun _ h => h⟩
theorem run_call_fn {a : Act} {o : Oper} {f : FuncId} {fn : Func} {xs : Array Operand} {ts : Array TypeId} (w : World) (hop : o.op = .call { callee := .value (.func f), args := xs, argTypes := ts })
    (hf : P.funcs[f]? = some fn) (hn : (fn.name == "runtime.NumGoroutine") = false) (hb : fn.body.isNone = false) : (execOp a.eval o).run P w = .ok (.enter f (xs.map a.eval)) w := by
  have h1 : (program : Sem Program).run P w = .ok P w := rfl
  have hn' : ¬ fn.name = "runtime.NumGoroutine" := by simpa using hn
  have hb' : ¬ fn.body = none := by intro h; rw [h] at hb; cases hb
  simp [execOp, hop, resolve, Act.eval, Deferred.ofValue, invoke, callFunc, h1, hf, hb', hn']
theorem calm_call {K : Act → Prop} {i : Nat} {l : List Nat} {a : Act} {o : Oper} {v : Value} {f : FuncId} {fn : Func} {xs : Array Operand} {ts : Array TypeId} {args : Array Value}
    (hi : ops[i]? = some o) (hw : Region.wanted o (yielded ops a.tmps) = true) (hop : o.op = .call { callee := .value (.func f), args := xs, argTypes := ts })
    (hf : P.funcs[f]? = some fn) (hn : (fn.name == "runtime.NumGoroutine") = false) (hb : fn.body.isNone = false) (hx : xs.map a.eval = args)
    (hc : ∀ w, Cls w0 w → Calls P f args w (fun e w'' => e = .returned v ∧ Below w.heap.size w w''))
    (h : ∀ K' : Act → Prop, (∀ a, wpCalm P w0 ops K l a → K' a) → K' (a.put o.dst v)) : wpCalm P w0 ops K (i :: l) a :=
  calm_yes hi hw (fun w hC => by unfold calmAt; rw [run_call_fn w hop hf hn hb, hx]; exact ⟨rfl, hc w hC⟩) h
theorem run_call_clo {a : Act} {o : Oper} {f : FuncId} {fn : Func} {x : Operand} {first capt : Array Value} {xs : Array Operand} {ts : Array TypeId} (w : World) (hop : o.op = .call { callee := .value x, args := xs, argTypes := ts })
    (hx : a.eval x = .func (.func f) first capt) (hf : P.funcs[f]? = some fn) (hn : (fn.name == "runtime.NumGoroutine") = false) (hb : fn.body.isNone = false) : (execOp a.eval o).run P w = .ok (.enter f (first ++ xs.map a.eval ++ capt)) w := by
  have h1 : (program : Sem Program).run P w = .ok P w := rfl
  have hn' : ¬ fn.name = "runtime.NumGoroutine" := by simpa using hn
  have hb' : ¬ fn.body = none := by intro h; rw [h] at hb; cases hb
  simp [execOp, hop, resolve, hx, Deferred.ofValue, invoke, callFunc, h1, hf, hb', hn']
theorem calm_clo {K : Act → Prop} {i : Nat} {l : List Nat} {a : Act} {o : Oper} {v : Value} {f : FuncId} {fn : Func} {x : Operand} {first capt : Array Value} {xs : Array Operand} {ts : Array TypeId} {args : Array Value}
    (hi : ops[i]? = some o) (hw : Region.wanted o (yielded ops a.tmps) = true) (hop : o.op = .call { callee := .value x, args := xs, argTypes := ts }) (hv : a.eval x = .func (.func f) first capt)
    (hf : P.funcs[f]? = some fn) (hn : (fn.name == "runtime.NumGoroutine") = false) (hb : fn.body.isNone = false) (hx : first ++ xs.map a.eval ++ capt = args)
    (hc : ∀ w, Cls w0 w → Calls P f args w (fun e w'' => e = .returned v ∧ Below w.heap.size w w''))
    (h : ∀ K' : Act → Prop, (∀ a, wpCalm P w0 ops K l a → K' a) → K' (a.put o.dst v)) : wpCalm P w0 ops K (i :: l) a :=
  calm_yes hi hw (fun w hC => by unfold calmAt; rw [run_call_clo w hop hv hf hn hb, hx]; exact ⟨rfl, hc w hC⟩) h
/-- Behind the calm operations: nothing is left. -/
theorem calm_end {Q : Exit → Act → World → Prop} {keeps : Nat → Bool} {w1 : World} {a : Act} (h : ∀ w', Ext w1 w' → Q .normal a w') (hw : ∀ w', Cls w0 w' → Ext w1 w') :
    wpCalm P w0 ops (fun a' => ∀ w', Cls w0 w' → wpLate P w0 ops keeps Q [] a' w') [] a := fun _ hC _ hx => h _ (hw _ (Cls.ext hC hx))
theorem calm_done {Q : Exit → Act → World → Prop} {keeps : Nat → Bool} {w : World} {a : Act} (h : ∀ w', Ext w w' → Q .normal a w') :
    wpCalm P w.drew ops (fun a' => ∀ w', Cls w.drew w' → wpLate P w.drew ops keeps Q [] a' w') [] a := fun _ hC _ hx => h _ (Below.trans (Below.refl _ w).drew (Cls.ext hC hx))
theorem calm_nil {K : Act → Prop} {a : Act} (h : K a) : wpCalm P w0 ops K [] a := h
/-- A cell of the region's first world is in every world of the class. -/
theorem Cls.cell {a w : World} (h : Cls a w) {p : Addr} {v : Value} (hc : a.cell? p = some v) : w.cell? p = some v := by
  have hlt : p.block < a.heap.size := by
    unfold World.cell? at hc
    rcases Nat.lt_or_ge p.block a.heap.size with h | h
    · exact h
    · rw [Array.getElem?_eq_none h] at hc; cases hc
  rw [Below.cell h hlt]; exact hc
theorem late_nil {Q : Exit → Act → World → Prop} {keeps : Nat → Bool} {a : Act} {w : World} (h : ∀ w', Ext w w' → Q .normal a w') : wpLate P w0 ops keeps Q [] a w := h
theorem late_step {Q : Exit → Act → World → Prop} {keeps : Nat → Bool} {i : Nat} {l : List Nat} {a : Act} {w : World} {o : Oper} (hi : ops[i]? = some o) (hw : Region.wanted o (yielded ops a.tmps) = true)
    (h : ∀ w', Ext w w' → ∀ K : Act → World → Prop, (∀ a' w'', ((keeps i = true → Cls w0 w'') ∧ wpLate P w0 ops keeps Q l a' w'') → K a' w'') → o.wp P a w' K (NoP Q)) : wpLate P w0 ops keeps Q (i :: l) a w := by
  intro w' hx
  unfold wpOp
  simp only [hi, hw, if_true]
  exact .inl (h w' hx _ fun _ _ h => h)

/-- A late operation that leaves a world of the class. -/
theorem late_keep {Q : Exit → Act → World → Prop} {keeps : Nat → Bool} {i : Nat} {l : List Nat} {a : Act} {w : World} {o : Oper} (hi : ops[i]? = some o) (hw : Region.wanted o (yielded ops a.tmps) = true) (hC : Cls w0 w)
    (h : ∀ w', Ext w w' → Cls w0 w' → ∀ K : Act → World → Prop, (∀ a' w'', Cls w0 w'' → (Cls w0 w'' → wpLate P w0 ops keeps Q l a' w'') → K a' w'') → o.wp P a w' K (NoP Q)) : wpLate P w0 ops keeps Q (i :: l) a w :=
  late_step hi hw fun w' hx K hK => h w' hx (Cls.ext hC hx) K fun a' w'' hc hl => hK a' w'' ⟨fun _ => hc, hl hc⟩
/-- A late operation before which all calm ones must come. -/
theorem late_free {Q : Exit → Act → World → Prop} {keeps : Nat → Bool} {i : Nat} {l : List Nat} {a : Act} {w : World} {o : Oper} (hk : keeps i = false) (hi : ops[i]? = some o) (hw : Region.wanted o (yielded ops a.tmps) = true)
    (h : ∀ w', Ext w w' → ∀ K : Act → World → Prop, (∀ a' w'', wpLate P w0 ops keeps Q l a' w'' → K a' w'') → o.wp P a w' K (NoP Q)) : wpLate P w0 ops keeps Q (i :: l) a w :=
  late_step hi hw fun w' hx K hK => h w' hx K fun a' w'' hl => hK a' w'' ⟨fun e => (by rw [hk] at e; cases e), hl⟩

end
end Go.Proofs.YtagmnbphbakikaaGreat.Reg
namespace Go.Proofs.YtagmnbphbakikaaGreat
open Go Go.RowKit Reg

abbrev Pt := Int × Int

theorem ret_b {p : Prop} [Decidable p] {b : Bool} (h : b = true ↔ p) : Ending.returned (.bool b) = .returned (.bool (decide p)) := by
  congr 2; rw [Bool.eq_iff_iff, h]; simp
theorem ret_bb {b c : Bool} (h : b = c) : Ending.returned (.bool b) = .returned (.bool c) := by rw [h]
theorem ret_i {k : IntKind} {a b : Int} (h : a = b) : Ending.returned (.int k a) = .returned (.int k b) := by rw [h]

theorem bcell {W w1 : World} (hb : Below W.heap.size W w1) : (∀ b o, b < W.heap.size → w1.cell? ⟨b, o, none⟩ = W.cell? ⟨b, o, none⟩) ∧ (∀ b o, b < W.heap.size → w1.frozen? ⟨b, o, none⟩ = W.frozen? ⟨b, o, none⟩) :=
  ⟨fun b o h => hb.cell (p := ⟨b, o, none⟩) h, fun b o h => hb.frozen (p := ⟨b, o, none⟩) h⟩

/-- A call that leaves the world alone. -/
theorem ext_of_same {P : Program} {f : FuncId} {args : Array Value} {w : World} {v : Value} (h : Calls P f args w fun e w' => e = .returned v ∧ w = w') :
    Calls P f args w fun e w' => e = .returned v ∧ Below w.heap.size w w' :=
  h.mono fun _ _ ⟨he, hw⟩ => ⟨he, by subst hw; exact Below.refl _ _⟩

/-! ### slices that read as lists -/

/-- The slice at A reads as xs: each element's cells, 'sz' of them, are as R says. -/
def In {α : Type} (R : World → α → List Value → Prop) (sz : Nat) (w : World) (A : Option Addr) (xs : List α) : Prop :=
  0 < xs.length → ∃ b off, A = some ⟨b, off, none⟩ ∧ ∀ (k : Nat) (h : k < xs.length), ∃ us, R w xs[k] us ∧ us.length = sz ∧ ∀ (j : Nat) u, us[j]? = some u → w.cell? ⟨b, off + k * sz + j, none⟩ = some u

/-- What R says is kept by new blocks. -/
def Stab {α : Type} (R : World → α → List Value → Prop) : Prop := ∀ w w' x us, R w x us → Ext w w' → R w' x us

theorem In.ext {α : Type} {R : World → α → List Value → Prop} {sz : Nat} {w w' : World} {A : Option Addr} {xs : List α} (hR : Stab R) (h : In R sz w A xs) (hx : Ext w w') : In R sz w' A xs := by
  intro hn
  obtain ⟨b, off, hA, hc⟩ := h hn
  refine ⟨b, off, hA, fun k hk => ?_⟩
  obtain ⟨us, h1, h2, h3⟩ := hc k hk
  exact ⟨us, hR _ _ _ _ h1 hx, h2, fun j u hu => Cls.cell hx (h3 j u hu)⟩

def ptR : World → Pt → List Value → Prop := fun _ p us => us = [.int .i64 p.1, .int .i64 p.2]
def intR : World → Int → List Value → Prop := fun _ n us => us = [.int .i64 n]
theorem ptR_stab : Stab ptR := fun _ _ _ _ h _ => h
theorem intR_stab : Stab intR := fun _ _ _ _ h _ => h

abbrev Pts (w : World) (A : Option Addr) (ps : List Pt) : Prop := In ptR 2 w A ps
abbrev Ints (w : World) (A : Option Addr) (ns : List Int) : Prop := In intR 1 w A ns

theorem In.of_nil {α : Type} {R : World → α → List Value → Prop} {sz : Nat} {w : World} {A : Option Addr} : In R sz w A [] := fun h => absurd h (by simp)

theorem cell_lt {w : World} {p : Addr} {v : Value} (hc : w.cell? p = some v) : p.block < w.heap.size := by
  unfold World.cell? at hc
  rcases Nat.lt_or_ge p.block w.heap.size with h | h
  · exact h
  · rw [Array.getElem?_eq_none h] at hc; cases hc
theorem In.lt {α : Type} {R : World → α → List Value → Prop} {sz : Nat} {w : World} {A : Option Addr} {xs : List α} (h : In R sz w A xs) (h0 : 0 < sz) (hn : 0 < xs.length) : ∀ b off, A = some ⟨b, off, none⟩ → b < w.heap.size := by
  intro b off hA
  obtain ⟨b', off', hA', hc⟩ := h hn
  rw [hA] at hA'
  injection hA' with hA'
  injection hA' with e1 e2
  subst e1
  obtain ⟨us, _, h2, h3⟩ := hc 0 hn
  have := cell_lt (h3 0 _ (List.getElem?_eq_getElem (by omega)))
  exact this

theorem In.pts {w : World} {A : Option Addr} {ps : List Pt} (h : Pts w A ps) (hn : 0 < ps.length) : ∃ b off, A = some ⟨b, off, none⟩ ∧ b < w.heap.size ∧
    ∀ (k : Nat) (h : k < ps.length), w.cell? ⟨b, off + k * 2, none⟩ = some (.int .i64 ps[k].1) ∧ w.cell? ⟨b, off + k * 2 + 1, none⟩ = some (.int .i64 ps[k].2) := by
  have hlt := h.lt (by omega) hn
  obtain ⟨b, off, hA, hc⟩ := h hn
  refine ⟨b, off, hA, hlt b off hA, fun k hk => ?_⟩
  obtain ⟨us, h1, _, h3⟩ := hc k hk
  have h1' : us = [.int .i64 ps[k].1, .int .i64 ps[k].2] := h1
  subst h1'
  exact ⟨h3 0 _ rfl, h3 1 _ rfl⟩
theorem In.ints {w : World} {A : Option Addr} {ns : List Int} (h : Ints w A ns) (hn : 0 < ns.length) : ∃ b off, A = some ⟨b, off, none⟩ ∧ b < w.heap.size ∧
    ∀ (k : Nat) (h : k < ns.length), w.cell? ⟨b, off + k, none⟩ = some (.int .i64 ns[k]) := by
  have hlt := h.lt (by omega) hn
  obtain ⟨b, off, hA, hc⟩ := h hn
  refine ⟨b, off, hA, hlt b off hA, fun k hk => ?_⟩
  obtain ⟨us, h1, _, h3⟩ := hc k hk
  have h1' : us = [.int .i64 ns[k]] := h1
  subst h1'
  have := h3 0 _ rfl
  simpa using this

/-! ### blocks that are known whole -/
/-- Block g is just the cells cs of element type e, none frozen. -/
def Row (w : World) (g : Nat) (e : TypeId) (cs : List Value) : Prop := w.heap[g]? = some (.cells cs.toArray e (0, 0))

section
variable {w w' : World} {g : Nat} {e : TypeId} {cs : List Value}
theorem Row.lt (h : Row w g e cs) : g < w.heap.size := by
  rcases Nat.lt_or_ge g w.heap.size with hlt | hge
  · exact hlt
  · unfold Row at h; rw [Array.getElem?_eq_none hge] at h; cases h
theorem Row.cell (h : Row w g e cs) (i : Nat) : w.cell? ⟨g, i, none⟩ = cs[i]? := by
  unfold Row at h
  simp [World.cell?, h]
theorem Row.cell_of (h : Row w g e cs) {i : Nat} {v : Value} (hv : cs[i]? = some v) : w.cell? ⟨g, i, none⟩ = some v := (h.cell i).trans hv
theorem Row.frozen (h : Row w g e cs) (i : Nat) : w.frozen? ⟨g, i, none⟩ = false := by
  unfold Row at h
  simp [World.frozen?, h]
theorem Row.new (w : World) (e : TypeId) (cs : List Value) : Row (w.alloc (.cells cs.toArray e)) w.heap.size e cs := heap_alloc_new w _
theorem Row.alloc (h : Row w g e cs) (o : Obj) : Row (w.alloc o) g e cs := (Below.heap_alloc w o g h.lt).trans h
theorem Row.drew (h : Row w g e cs) : Row w.drew g e cs := h
theorem Row.ext (h : Row w g e cs) (hx : Ext w w') : Row w' g e cs := (hx.block g h.lt).trans h
theorem Row.below {B : Nat} (h : Row w g e cs) (hx : Below B w w') (hg : g < B) : Row w' g e cs := (hx.block g hg).trans h
theorem Row.set_ (h : Row w g e cs) (i : Nat) (u : Value) : Row (w.setCell ⟨g, i, none⟩ u) g e (cs.set i u) := by
  unfold Row at h ⊢
  simp [World.setCell, Array.getElem?_modify, h]
theorem Row.far (h : Row w g e cs) {p : Addr} (hp : g ≠ p.block) (u : Value) : Row (w.setCell p u) g e cs := (Below.heap_setCell w p u g hp).trans h
end

/-! ### elements laid out in cells -/
def ptC (p : Pt) : List Value := [.int .i64 p.1, .int .i64 p.2]
def intC (n : Int) : List Value := [.int .i64 n]
/-- The first k elements laid, behind them the zero element. -/
def fillC {α : Type} (enc : α → List Value) (z : List Value) (xs : List α) (k : Nat) : List Value := (xs.take k).flatMap enc ++ (List.replicate (xs.length - k) z).flatten

theorem flat_len {α : Type} {enc : α → List Value} {sz : Nat} (he : ∀ x, (enc x).length = sz) (xs : List α) : (xs.flatMap enc).length = xs.length * sz := by
  induction xs with
  | nil => simp
  | cons x xs ih => simp [List.flatMap_cons, ih, he, Nat.add_mul, Nat.add_comm]
theorem flat_get {α : Type} {enc : α → List Value} {sz : Nat} (he : ∀ x, (enc x).length = sz) : ∀ (xs : List α) (rest : List Value) (k : Nat) (h : k < xs.length) (j : Nat), j < sz → (xs.flatMap enc ++ rest)[k * sz + j]? = (enc xs[k])[j]?
  | [], _, _, h, _, _ => absurd h (by simp)
  | x :: xs, rest, 0, _, j, hj => by
    rw [List.flatMap_cons, List.append_assoc, List.getElem?_append_left (by rw [he]; omega)]
    simp
  | x :: xs, rest, k + 1, h, j, hj => by
    rw [List.flatMap_cons, List.append_assoc, List.getElem?_append_right (by rw [he, Nat.add_mul]; omega)]
    have e : (k + 1) * sz + j - (enc x).length = k * sz + j := by rw [he, Nat.add_mul]; omega
    rw [e, flat_get he xs rest k (by simpa using h) j hj]
    rfl

theorem flat_take {α : Type} {enc : α → List Value} {sz : Nat} (he : ∀ x, (enc x).length = sz) (xs : List α) (k : Nat) (h : k ≤ xs.length) : (xs.flatMap enc).take (k * sz) = (xs.take k).flatMap enc := by
  conv => lhs; rw [← List.take_append_drop k xs, List.flatMap_append]
  have e : k * sz = ((xs.take k).flatMap enc).length := by rw [flat_len he, List.length_take, Nat.min_eq_left h]
  rw [e, List.take_left]
theorem zeros_get {z : List Value} {sz : Nat} (hz : z.length = sz) (n k j : Nat) (hk : k < n) (hj : j < sz) : ((List.replicate n z).flatten)[k * sz + j]? = z[j]? := by
  have := flat_get (enc := fun _ : Unit => z) (sz := sz) (fun _ => hz) (List.replicate n ()) [] k (by simpa using hk) j hj
  simpa [List.flatMap_replicate] using this

theorem fillC_get {α : Type} {enc : α → List Value} {z : List Value} {sz : Nat} (he : ∀ x, (enc x).length = sz) (hz : z.length = sz) {xs : List α} {k : Nat} (hk : k < xs.length) {j : Nat} (hj : j < sz) :
    (fillC enc z xs k)[k * sz + j]? = z[j]? := by
  unfold fillC
  rw [List.getElem?_append_right (by rw [flat_len he, List.length_take]; have : min k xs.length = k := by omega
                                     rw [this]; omega), flat_len he, List.length_take]
  have e : k * sz + j - min k xs.length * sz = 0 * sz + j := by have : min k xs.length = k := by omega
                                                                rw [this]; omega
  rw [e, zeros_get hz _ 0 j (by omega) hj]

theorem fillC_len {α : Type} {enc : α → List Value} {z : List Value} {sz : Nat} (he : ∀ x, (enc x).length = sz) (hz : z.length = sz) {xs : List α} {k : Nat} (hk : k ≤ xs.length) : (fillC enc z xs k).length = xs.length * sz := by
  unfold fillC
  rw [List.length_append, flat_len he, List.length_take, List.length_flatten]
  simp only [List.map_replicate, hz, List.sum_replicate_nat]
  have : min k xs.length = k := by omega
  rw [this, ← Nat.add_mul]; congr 1; omega

/-- Storing element k's cells, one by one. -/
def setAll (cs : List Value) (i : Nat) : List Value → List Value
  | [] => cs
  | u :: us => setAll (cs.set i u) (i + 1) us

theorem setAll_append (a : List Value) : ∀ (us b c : List Value), b.length = us.length → setAll (a ++ (b ++ c)) a.length us = a ++ (us ++ c)
  | [], b, c, h => by simp at h; subst h; rfl
  | u :: us, b, c, h => by
    match b, h with
    | x :: b, h =>
      simp only [setAll]
      have e : (a ++ ((x :: b) ++ c)).set a.length u = (a ++ [u]) ++ (b ++ c) := by simp
      have e2 : a.length + 1 = (a ++ [u]).length := by simp
      rw [e, e2, setAll_append (a ++ [u]) us b c (by simpa using h)]
      simp

theorem fillC_set {α : Type} {enc : α → List Value} {z : List Value} {sz : Nat} (he : ∀ x, (enc x).length = sz) (hz : z.length = sz) {xs : List α} {k : Nat} (hk : k < xs.length) :
    setAll (fillC enc z xs k) (k * sz) (enc xs[k]) = fillC enc z xs (k + 1) := by
  have hl : ((xs.take k).flatMap enc).length = k * sz := by
    rw [flat_len he, List.length_take]; congr 1; omega
  have e1 : xs.length - k = (xs.length - (k + 1)) + 1 := by omega
  unfold fillC
  rw [e1, List.replicate_succ, List.flatten_cons, ← hl, setAll_append _ _ _ _ (by rw [he, hz]), List.take_succ_eq_append_getElem hk, List.flatMap_append]
  simp

theorem setAll_take_drop {α : Type} {enc : α → List Value} {sz : Nat} (he : ∀ x, (enc x).length = sz) (xs : List α) {k : Nat} (hk : k < xs.length) (x : α) : setAll (xs.flatMap enc) (k * sz) (enc x) = (xs.set k x).flatMap enc := by
  have e : xs = xs.take k ++ (xs[k] :: xs.drop (k + 1)) := by rw [← List.drop_eq_getElem_cons hk, List.take_append_drop]
  have e2 : xs.set k x = xs.take k ++ (x :: xs.drop (k + 1)) := by
    conv => lhs; rw [e]
    rw [List.set_append_right _ _ (by rw [List.length_take]; omega), List.length_take]
    have : k - min k xs.length = 0 := by omega
    rw [this, List.set_cons_zero]
  have hl : ((xs.take k).flatMap enc).length = k * sz := by rw [flat_len he, List.length_take]; congr 1; omega
  rw [e2]
  conv => lhs; rw [e]
  rw [List.flatMap_append, List.flatMap_cons, List.flatMap_append, List.flatMap_cons, ← hl]
  exact setAll_append _ _ _ _ (by rw [he, he])
theorem flat_set {enc : Pt → List Value} (he : ∀ x, (enc x).length = 2) (xs : List Pt) {k : Nat} (hk : k < xs.length) (x : Pt) (hx : enc x = [.int .i64 x.1, .int .i64 x.2] := by rfl) :
    ((xs.flatMap enc).set (k * 2) (.int .i64 x.1)).set (k * 2 + 1) (.int .i64 x.2) = (xs.set k x).flatMap enc := by
  have := setAll_take_drop he xs hk x
  rw [hx] at this
  exact this
theorem fillC_zero {α : Type} {enc : α → List Value} {z : List Value} (xs : List α) : fillC enc z xs 0 = (List.replicate xs.length z).flatten := by simp [fillC]
theorem fillC_all {α : Type} {enc : α → List Value} {z : List Value} (xs : List α) : fillC enc z xs xs.length = xs.flatMap enc := by simp [fillC]

theorem madeCells_eq {z : Array Value} {zl : List Value} (n : Nat) (hz : z = zl.toArray) (h0 : 0 < zl.length) : madeCells z (n * zl.length) = ((List.replicate n zl).flatten).toArray := by
  subst hz
  apply Array.toList_inj.1
  simp only [madeCells, Array.toList_map, Array.toList_range, List.size_toArray]
  apply List.ext_getElem?
  intro i
  rcases Nat.lt_or_ge i (n * zl.length) with hi | hi
  · have hr : i % zl.length < zl.length := Nat.mod_lt _ h0
    have hq : i / zl.length < n := Nat.div_lt_of_lt_mul (by rw [Nat.mul_comm]; exact hi)
    have := zeros_get (z := zl) rfl n (i / zl.length) (i % zl.length) hq hr
    rw [Nat.mul_comm, Nat.div_add_mod] at this
    rw [this, List.getElem?_map, List.getElem?_range hi]
    simp [hr]
  · rw [List.getElem?_eq_none (by simpa using hi), List.getElem?_eq_none (by simpa [List.length_flatten, List.sum_replicate_nat] using hi)]

/-- A whole row reads as its elements. -/
theorem Row.in_ {α : Type} {enc : α → List Value} {sz : Nat} {R : World → α → List Value → Prop} {w : World} {g : Nat} {e : TypeId} {xs : List α} {rest : List Value} (he : ∀ x, (enc x).length = sz)
    (h : Row w g e (xs.flatMap enc ++ rest)) (hR : ∀ (k : Nat) (hk : k < xs.length), R w xs[k] (enc xs[k])) : In R sz w (some ⟨g, 0, none⟩) xs := by
  intro _
  refine ⟨g, 0, rfl, fun k hk => ⟨enc xs[k], hR k hk, he _, fun j u hu => ?_⟩⟩
  have hj : j < sz := by
    have := (List.getElem?_eq_some_iff.1 hu).1
    rwa [he] at this
  rw [Nat.zero_add, h.cell, flat_get he xs rest k hk j hj, hu]

/-- What is known of a slice type and its element type. -/
structure EI (P : Program) (t e : TypeId) (z : Value) (zl : List Value) (bytes : Nat) : Prop where
  und : P.underlying t = some (.slice e)
  info : ∃ i, P.info? e = some i ∧ i.zero = some z ∧ i.size = zl.length ∧ i.bytes = bytes
  zc : z.cells = zl.toArray
  pos : 0 < zl.length
  small : bytes ≤ 1000

theorem ei_mk {P : Program} {t e : TypeId} {z : Value} {zl : List Value} {bytes : Nat} (hu : P.underlying t = some (.slice e)) (h : (P.info? e).map (fun i => (i.zero, i.size, i.bytes)) = some (some z, zl.length, bytes))
    (hz : z.cells = zl.toArray) (h0 : 0 < zl.length) (hs : bytes ≤ 1000) : EI P t e z zl bytes := ⟨hu, info_parts h, hz, h0, hs⟩

theorem run_make_fill {P : Program} {t e : TypeId} {z : Value} {zl : List Value} {bytes : Nat} (E : EI P t e z zl bytes) {α : Type} (enc : α → List Value) (xs : List α) (hn : xs.length ≤ 4000000000) (w : World) :
    (Instr.makeSlice t (.int .i64 (xs.length : Int)) (.int .i64 (xs.length : Int))).run P w = .ok (.slice (some ⟨w.heap.size, 0, none⟩) xs.length xs.length) (w.alloc (.cells (fillC enc zl xs 0).toArray e)) := by
  obtain ⟨i, h1, h2, h3, h4⟩ := E.info
  have hs := E.small
  have hb : i.bytes * xs.length ≤ 1000 * 4000000000 := Nat.mul_le_mul (by omega) hn
  have hb' : (i.bytes : Int) * (xs.length : Int) ≤ 281474976710656 := by rw [← Int.natCast_mul]; omega
  have hr := run_make (P := P) w t e i z E.und h1 h2 .i64 .i64 (xs.length : Int) (xs.length : Int) (by omega) (Int.le_refl _) hb' (by omega)
  rw [hr, Int.toNat_natCast, h3, madeCells_eq xs.length E.zc E.pos, fillC_zero]

/-! ### rows of one's own -/
/-- The slice value v, n elements of type e, owns the cells xs: it is nil, or it starts at the head of a block from base on, nothing of it frozen, with room for its capacity. (A clipped slice is one, too.) -/
def Has (w : World) (base : Nat) (e : TypeId) (sz : Nat) (v : Value) (n : Nat) (xs : List Value) : Prop :=
  xs.length = n * sz ∧ ((v = .slice none 0 0 ∧ n = 0) ∨
    ∃ g cap cur, v = .slice (some ⟨g, 0, none⟩) n cap ∧ base ≤ g ∧ w.heap[g]? = some (.cells cur e (0, 0)) ∧ n ≤ cap ∧ cap ≤ maxLen ∧ cap * sz ≤ cur.size ∧ cur.toList.take (n * sz) = xs)

section
variable {w w' : World} {base : Nat} {e : TypeId} {sz n cap g : Nat} {v : Value} {xs : List Value}
theorem Has.of (h : w.ownsRow base e sz v n xs) : Has w base e sz v n xs := by
  refine ⟨h.1, ?_⟩
  rcases h.2 with h0 | ⟨g, cap, cur, h1, h2, h3, h4, h5, h6, h7⟩
  · exact .inl h0
  · exact .inr ⟨g, cap, cur, h1, h2, h3, h4, h5, by omega, h7⟩
theorem Has.lt (h : Has w base e sz v n xs) : ∀ k, v.ownBlock = some k → base ≤ k ∧ k < w.heap.size := by
  intro k hk
  rcases h.2 with ⟨rfl, _⟩ | ⟨g, cap, cur, rfl, h2, h3, _⟩
  · cases hk
  · have : g = k := by simpa [Value.ownBlock] using hk
    subst this
    exact ⟨h2, Row.lt (cs := cur.toList) (by unfold Row; simpa using h3)⟩
theorem Has.kept {row : Option Nat} (h : Has w base e sz v n xs) (hg : w.grownBy w' row) (hne : v.ownBlock = none ∨ v.ownBlock ≠ row) : Has w' base e sz v n xs := by
  refine ⟨h.1, ?_⟩
  have hl := h.lt
  rcases h.2 with h0 | ⟨g, cap, cur, h1, h2, h3, h4⟩
  · exact .inl h0
  · refine .inr ⟨g, cap, cur, h1, h2, ?_, h4⟩
    subst h1
    rw [hg.block g (hl g rfl).2 (by rcases hne with h | h
                                    · cases h
                                    · exact h)]
    exact h3
theorem Has.cellAt (h : Has w base e sz (.slice (some ⟨g, 0, none⟩) n cap) n xs) (j : Nat) (hj : j < n * sz) : w.cell? ⟨g, j, none⟩ = xs[j]? := by
  rcases h.2 with ⟨h0, _⟩ | ⟨g', cap', cur, h1, _, h3, _, _, _, h7⟩
  · cases h0
  · injection h1 with h1 _ _
    injection h1 with h1
    injection h1 with h1
    subst h1
    rw [(show Row w g e cur.toList by unfold Row; simpa using h3).cell, ← h7, List.getElem?_take_of_lt hj]
theorem Has.frozenAt (h : Has w base e sz (.slice (some ⟨g, 0, none⟩) n cap) n xs) (j : Nat) : w.frozen? ⟨g, j, none⟩ = false := by
  rcases h.2 with ⟨h0, _⟩ | ⟨g', cap', cur, h1, _, h3, _⟩
  · cases h0
  · injection h1 with h1 _ _
    injection h1 with h1
    injection h1 with h1
    subst h1
    exact (show Row w g e cur.toList by unfold Row; simpa using h3).frozen j
theorem Has.stored (h : Has w base e sz (.slice (some ⟨g, 0, none⟩) n cap) n xs) (j : Nat) (u : Value) :
    Has (w.setCell ⟨g, j, none⟩ u) base e sz (.slice (some ⟨g, 0, none⟩) n cap) n (xs.set j u) ∧ w.grownBy (w.setCell ⟨g, j, none⟩ u) (some g) := by
  rcases h.2 with ⟨h0, _⟩ | ⟨g', cap', cur, h1, h2, h3, h4, h5, h6, h7⟩
  · cases h0
  · injection h1 with h1 _ hc
    injection h1 with h1
    injection h1 with h1
    subst h1 hc
    have hr := (show Row w g e cur.toList by unfold Row; simpa using h3).set_ j u
    refine ⟨⟨by simpa using h.1, .inr ⟨g, cap, (cur.toList.set j u).toArray, rfl, h2, hr, h4, h5, by simpa using h6, ?_⟩⟩,
      ⟨rfl, rfl, rfl, by simp [World.setCell], fun k _ hk => Below.heap_setCell w ⟨g, j, none⟩ u k (by rintro rfl; exact hk rfl)⟩⟩
    show (cur.toList.set j u).take (n * sz) = xs.set j u
    rw [← h7, List.take_set]
end

/-! ### append to a row of one's own -/
section
variable {P : Program} {w : World} {base : Nat} {t e : TypeId} {z : Value} {zl : List Value} {bytes : Nat}

/-- What is appended: m elements, cells news, at A. -/
def Src (w : World) (A : Option Addr) (m sz : Nat) (news : List Value) : Prop :=
  news.length = m * sz ∧ (A = none → m = 0) ∧ (∀ ad, A = some ad → ∀ (j : Nat) u, news[j]? = some u → w.cell? (ad.add j) = some u) ∧ ∀ u ∈ news, u.oneCell' = true

theorem Has.rebase {sz n : Nat} {v : Value} {B B' : Nat} {xs : List Value} (h : Has w B e sz v n xs) (hB : B' ≤ B) : Has w B' e sz v n xs := by
  refine ⟨h.1, ?_⟩
  rcases h.2 with h0 | ⟨g, cap, cur, h1, h2, h3⟩
  · exact .inl h0
  · exact .inr ⟨g, cap, cur, h1, Nat.le_trans hB h2, h3⟩
theorem Has.src {sz n cap : Nat} {A : Option Addr} {xs : List Value} (h : Has w base e sz (.slice A n cap) n xs) (h1 : ∀ u ∈ xs, u.oneCell' = true) : Src w A n sz xs := by
  refine ⟨h.1, fun hA => ?_, fun ad had j u hu => ?_, h1⟩
  · rcases h.2 with ⟨_, h0⟩ | ⟨g, cap', cur, h2, _⟩
    · exact h0
    · injection h2 with h2; rw [hA] at h2; cases h2
  · have hj : j < n * sz := by
      have := (List.getElem?_eq_some_iff.1 hu).1
      rwa [h.1] at this
    subst had
    rcases h.2 with ⟨h0, _⟩ | ⟨g, cap', cur, h2, _⟩
    · cases h0
    · injection h2 with h2
      injection h2 with h2
      subst h2
      have e1 : (⟨g, 0, none⟩ : Addr).add j = ⟨g, j, none⟩ := by
        unfold Addr.add; split
        · rename_i h; subst h; rfl
        · simp
      rw [e1, h.cellAt j hj, hu]

theorem run_app (E : EI P t e z zl bytes) (ty : TypeId) {v : Value} {n : Nat} {xs : List Value} (hown : Has w base e zl.length v n xs) {A : Option Addr} {m : Nat} (c : Nat) {news : List Value} (hsrc : Src w A m zl.length news)
    (hn : n + m ≤ 4000000000) (hbase : base ≤ w.heap.size) :
    ∃ v' w', (Builtin.append_ #[t, t] ty #[v, .slice A m c]).run P w = .ok v' w' ∧ Has w' base e zl.length v' (n + m) (xs ++ news) ∧ w.grownBy w' v.ownBlock ∧ (v'.ownBlock = v.ownBlock ∨ v'.ownBlock = some w.heap.size) := by
  obtain ⟨i, h1, h2, h3, h4⟩ := E.info
  have hs := E.small
  have hzs : z.cells.size = zl.length := by rw [E.zc]; simp
  obtain ⟨s1, s2, s3, s4⟩ := hsrc
  have hby : (n + m) * bytes ≤ 4000000000 * 1000 := Nat.mul_le_mul hn hs
  cases A with
  | some ad =>
    rcases hown.2 with ⟨rfl, rfl⟩ | ⟨g, cap, cur, rfl, q1, q2, q3, q4, q5, q6⟩
    · have hnil : xs = [] := List.eq_nil_of_length_eq_zero (by simpa using hown.1)
      subst hnil
      obtain ⟨v', w', hrun, r1, r2, _, r3⟩ := run_append_own_at (P := P) w base t ty e i z zl.length bytes E.und h1 h2 h3 h4 hzs E.pos (.slice none 0 0) 0 [] (World.ownsRow_nil w base e zl.length) ad m c news s1 (s3 ad rfl) s4 (by simp only [maxLen]; omega) (by omega) hbase
      exact ⟨v', w', hrun, Has.of r1, r2, r3⟩
    · by_cases hroom : n + m ≤ cap
      · have hfit : n * i.size + news.length ≤ cur.size := by
          rw [h3, s1, ← Nat.add_mul]
          exact Nat.le_trans (Nat.mul_le_mul_right _ hroom) q5
        have hr := run_append_room (P := P) w t ty e i E.und h1 g n cap cur q2 ad m c news (by rw [h3]; exact s1) (s3 ad rfl) s4 hroom hfit
        refine ⟨_, _, hr, ⟨by rw [List.length_append, hown.1, s1, Nat.add_mul], .inr ⟨g, cap, _, rfl, q1, setRow_heap w g cur _ e _ q2, hroom, q4, ?_, ?_⟩⟩, ⟨rfl, rfl, rfl, by simp, fun k _ hk => setRow_other w g k _ (fun e => hk (by simp [Value.ownBlock, e]))⟩, .inl rfl⟩
        · simp only [List.size_toArray, List.length_append, List.length_take, List.length_drop, Array.length_toList]
          omega
        · have hlen : (n + m) * zl.length = (xs ++ news).length := by rw [List.length_append, hown.1, s1, Nat.add_mul]
          rw [h3, q6, hlen]
          exact List.take_left
      · have hrow : Row w g e cur.toList := by unfold Row; simpa using q2
        have holds : ∀ (j : Nat) u, xs[j]? = some u → w.cell? ((⟨g, 0, none⟩ : Addr).add j) = some u := by
          intro j u hu
          have hj : j < n * zl.length := by rw [← hown.1]; exact (List.getElem?_eq_some_iff.1 hu).1
          have e1 : (⟨g, 0, none⟩ : Addr).add j = ⟨g, j, none⟩ := by
            unfold Addr.add; split
            · rename_i h; subst h; rfl
            · simp
          rw [e1, hrow.cell]
          rw [← q6, List.getElem?_take_of_lt hj] at hu
          exact hu
        have hr := run_append_grow (P := P) w t ty e i z E.und h1 h2 ⟨g, 0, none⟩ n cap xs (by rw [h3]; exact hown.1) holds ad m c news (by rw [h3]; exact s1) (s3 ad rfl) (by omega) (by omega) (growslice_fits (by omega) (by rw [h4]; omega))
        have hlen : (xs ++ news).length = (n + m) * zl.length := by rw [List.length_append, hown.1, s1, Nat.add_mul]
        have hge := grownCap_ge w (n + m) cap e
        have hcm : grownCap w (n + m) cap e ≤ maxLen := grownCap_le_maxLen w (n + m) cap e (by simp only [maxLen]; omega)
        refine ⟨_, _, hr, ⟨hlen, .inr ⟨w.heap.size, _, _, rfl, hbase, heap_alloc_new w.drew _, hge, hcm, ?_, ?_⟩⟩, ⟨rfl, rfl, rfl, by simp, fun k hk _ => Below.heap_alloc w.drew _ k hk⟩, .inr rfl⟩
        · simp only [Array.size_append, List.size_toArray, size_zeroCells, hzs, hown.1, s1, ← Nat.add_mul]
          apply Nat.mul_le_mul_right
          omega
        · simp only [Array.toList_append, List.append_assoc]
          rw [← List.append_assoc, ← hlen]
          exact List.take_left
  | none =>
    have hm := s2 rfl
    subst hm
    have hnil : news = [] := List.eq_nil_of_length_eq_zero (by simpa using s1)
    subst hnil
    refine ⟨v, w, ?_, by simpa using hown, ⟨rfl, rfl, rfl, Nat.le_refl _, fun _ _ _ => rfl⟩, .inl rfl⟩
    rcases hown.2 with ⟨rfl, rfl⟩ | ⟨g, cap, cur, rfl, _, _, hnc, _⟩
    · simp [Builtin.append_, run_underlying E.und, sizeOf, typeInfo, h1, Builtin.lenOf, Builtin.firstCells]
    · simp [Builtin.append_, run_underlying E.und, sizeOf, typeInfo, h1, Builtin.lenOf, Builtin.firstCells, hnc, storeCells]

theorem wp_app {o : Oper} {a : Act} {K : Act → World → Prop} {Q : Exit → Act → World → Prop} (E : EI P t e z zl bytes) (s x : Operand) (ho : o.op = .call { callee := .builtin .append, args := #[s, x], argTypes := #[t, t] })
    {v : Value} {n : Nat} {xs : List Value} (hs : a.eval s = v) (hown : Has w base e zl.length v n xs) {A : Option Addr} {m c : Nat} {news : List Value} (hx : a.eval x = .slice A m c) (hsrc : Src w A m zl.length news)
    (hn : n + m ≤ 4000000000) (hbase : base ≤ w.heap.size)
    (h : ∀ v' w', Has w' base e zl.length v' (n + m) (xs ++ news) → w.grownBy w' v.ownBlock → (v'.ownBlock = v.ownBlock ∨ v'.ownBlock = some w.heap.size) → K (a.put o.dst v') w') : o.wp P a w K Q := by
  obtain ⟨v', w', hrun, h2, h3, h4⟩ := run_app E o.type hown c hsrc hn hbase
  unfold Oper.wp execOp
  simp only [ho, resolve, invoke, builtin, Sem.run_bind, Sem.run_pure, Result.andThen_ok, List.map_toArray, List.map_cons, List.map_nil, hs, hx, hrun]
  exact h v' w' h2 h3 h4

theorem wpList_app {ops : Array Oper} {rest : List Oper} {o : Oper} {a : Act} {Q : Exit → Act → World → Prop} (E : EI P t e z zl bytes) (hgd : o.guard = none) (s x : Operand) (ho : o.op = .call { callee := .builtin .append, args := #[s, x], argTypes := #[t, t] })
    {v : Value} {n : Nat} {xs : List Value} (hs : a.eval s = v) (hown : Has w base e zl.length v n xs) {A : Option Addr} {m c : Nat} {news : List Value} (hx : a.eval x = .slice A m c) (hsrc : Src w A m zl.length news)
    (hn : n + m ≤ 4000000000) (hbase : base ≤ w.heap.size)
    (h : ∀ v' w', Has w' base e zl.length v' (n + m) (xs ++ news) → w.grownBy w' v.ownBlock → (v'.ownBlock = v.ownBlock ∨ v'.ownBlock = some w.heap.size) → wpList P ops Q rest (a.put o.dst v') w') : wpList P ops Q (o :: rest) a w :=
  wpList_plain hgd fun _ hK => wp_app E s x ho hs hown hx hsrc hn hbase fun v' w' h2 h3 h4 => hK _ _ (h v' w' h2 h3 h4)

/-- The source is the cells of a block that has just been made. -/
theorem src_new (w : World) (e : TypeId) (cs : List Value) {m sz : Nat} (hl : cs.length = m * sz) (h1 : ∀ u ∈ cs, u.oneCell' = true) : Src (w.alloc (.cells cs.toArray e)) (some ⟨w.heap.size, 0, none⟩) m sz cs := by
  refine ⟨hl, fun h => (by cases h), fun ad had j u hu => ?_, h1⟩
  injection had with had
  subst had
  have e1 : (⟨w.heap.size, 0, none⟩ : Addr).add j = ⟨w.heap.size, j, none⟩ := by
    unfold Addr.add; split
    · rename_i h; subst h; rfl
    · simp
  rw [e1]
  exact (Row.new w e cs).cell_of hu

theorem Src.ext {w' : World} {A : Option Addr} {m sz : Nat} {news : List Value} (h : Src w A m sz news) (hx : Ext w w') : Src w' A m sz news :=
  ⟨h.1, h.2.1, fun ad had j u hu => Cls.cell hx (h.2.2.1 ad had j u hu), h.2.2.2⟩
theorem ext_alloc (w : World) (o : Obj) : Ext w (w.alloc o) := Below.alloc (Below.refl _ _) (Nat.le_refl _) o
theorem ext_cls {w w' : World} (h : Cls w.drew w') : Ext w w' := Below.trans (Below.refl _ w).drew h
theorem src_at {g : Nat} (w : World) (e : TypeId) (cs : List Value) {m sz : Nat} (hl : cs.length = m * sz) (h1 : ∀ u ∈ cs, u.oneCell' = true) (hg : g = w.heap.size) : Src (w.alloc (.cells cs.toArray e)) (some ⟨g, 0, none⟩) m sz cs := by
  subst hg; exact src_new w e cs hl h1
/-- A slice that reads as a list is a source. -/
theorem In.src {α : Type} {R : World → α → List Value → Prop} {enc : α → List Value} {sz : Nat} {A : Option Addr} {xs : List α} (h : In R sz w A xs) (he : ∀ x, (enc x).length = sz) (hR : ∀ x us, R w x us → us = enc x) (h1 : ∀ x, ∀ u ∈ enc x, u.oneCell' = true) (h0 : 0 < sz) :
    Src w A xs.length sz (xs.flatMap enc) := by
  refine ⟨flat_len he xs, fun hA => ?_, fun ad had j u hu => ?_, fun u hu => ?_⟩
  · rcases Nat.eq_zero_or_pos xs.length with h' | h'
    · exact h'
    · obtain ⟨b, off, hA', _⟩ := h h'
      rw [hA] at hA'; cases hA'
  · have hj : j < xs.length * sz := by
      have := (List.getElem?_eq_some_iff.1 hu).1
      rwa [flat_len he] at this
    have hn : 0 < xs.length := by
      rcases Nat.eq_zero_or_pos xs.length with h' | h'
      · rw [h'] at hj; simp at hj
      · exact h'
    obtain ⟨b, off, hA', hc⟩ := h hn
    rw [had] at hA'
    injection hA' with hA'
    subst hA'
    have hk : j / sz < xs.length := Nat.div_lt_of_lt_mul (by rw [Nat.mul_comm]; exact hj)
    have hr : j % sz < sz := Nat.mod_lt _ h0
    obtain ⟨us, q1, q2, q3⟩ := hc (j / sz) hk
    have := hR _ _ q1
    subst this
    have e1 : j / sz * sz + j % sz = j := by rw [Nat.mul_comm]; exact Nat.div_add_mod _ _
    have e2 := flat_get (rest := []) he xs (k := j / sz) hk (j := j % sz) hr
    rw [List.append_nil, e1, hu] at e2
    have := q3 _ _ e2.symm
    rw [Nat.add_assoc, e1] at this
    have e3 : (⟨b, off, none⟩ : Addr).add j = ⟨b, off + j, none⟩ := by
      unfold Addr.add; split
      · rename_i h; subst h; rfl
      · rfl
    rw [e3]; exact this
  · obtain ⟨x, _, hx⟩ := List.mem_flatMap.1 hu
    exact h1 x u hx

theorem own_form {sz n : Nat} {v : Value} {xs : List Value} (h : Has w base e sz v n xs) : ∃ A cap, v = .slice A n cap := by
  rcases h.2 with ⟨h0, h1⟩ | ⟨g, cap, cur, h1, _⟩
  · subst h1; exact ⟨none, 0, h0⟩
  · exact ⟨_, _, h1⟩
theorem own_nil (w : World) (base : Nat) (e : TypeId) (sz : Nat) : Has w base e sz (.slice none 0 0) 0 [] := Has.of (World.ownsRow_nil w base e sz)
theorem own_below {B sz n : Nat} {w0 w' : World} {v : Value} {xs : List Value} (hb : Below B w0 w) (hown : Has w B e sz v n xs) (hg : w.grownBy w' v.ownBlock) (hB : B ≤ w.heap.size) : Below B w0 w' :=
  hb.grown hg hB (fun k hk => (hown.lt k hk).1)

theorem own_ext {w' : World} {sz n : Nat} {v : Value} {xs : List Value} (h : Has w base e sz v n xs) (hx : Ext w w') : Has w' base e sz v n xs := by
  refine ⟨h.1, ?_⟩
  rcases h.2 with h0 | ⟨g, cap, cur, h1, h2, h3, h4⟩
  · exact .inl h0
  · exact .inr ⟨g, cap, cur, h1, h2, (hx.block g (Row.lt (cs := cur.toList) (by unfold Row; simpa using h3))).trans h3, h4⟩

/-- An owned row reads as its elements. -/
theorem own_in {α : Type} {enc : α → List Value} {sz cap n : Nat} {R : World → α → List Value → Prop} {A : Option Addr} {xs : List α} (he : ∀ x, (enc x).length = sz) (hsz : 0 < sz)
    (h : Has w base e sz (.slice A n cap) n (xs.flatMap enc)) (hR : ∀ x, R w x (enc x)) : In R sz w A xs := by
  intro hn
  have hl := h.1
  rw [flat_len he] at hl
  rcases h.2 with ⟨h0, h1⟩ | ⟨g, cap', cur, h1, _, h3, _, _, _, h6⟩
  · subst h1
    have : xs.length * sz = 0 := by simpa using hl
    rcases Nat.mul_eq_zero.1 this with h' | h' <;> omega
  · injection h1 with hA _ _
    subst hA
    have hrow : Row w g e (xs.flatMap enc ++ cur.toList.drop (n * sz)) := by
      unfold Row
      rw [h3, ← h6, List.take_append_drop]
    exact hrow.in_ he (fun k hk => hR _) hn
end

theorem below_ext {w wr w1 : World} (h : Below w.heap.size w wr) (k : Below wr.heap.size wr w1) : Below w.heap.size w w1 := Ext.trans h k

/-! ### lists -/
theorem all_take_succ {α : Type} {p : α → Bool} {l : List α} {k : Nat} (h : (l.take k).all p = true) (hk : k < l.length) (hv : p l[k] = true) : (l.take (k + 1)).all p = true := by
  rw [List.take_succ_eq_append_getElem hk, List.all_append, h]
  simp [hv]
theorem all_false_of {α : Type} {p : α → Bool} {l : List α} {k : Nat} (hk : k < l.length) (hv : p l[k] = false) : l.all p = false := by
  rw [Bool.eq_false_iff]; intro hh; rw [List.all_eq_true] at hh; have := hh _ (List.getElem_mem hk); rw [hv] at this; cases this
theorem all_of_take {α : Type} {p : α → Bool} {l : List α} {k : Nat} (h : (l.take k).all p = true) (hk : k = l.length) : l.all p = true := by
  subst hk; rwa [List.take_length] at h
theorem take_eq_succ {α : Type} {l m : List α} {k : Nat} (h : l.take k = m.take k) (hl : k < l.length) (hm : k < m.length) (he : l[k] = m[k]) : l.take (k + 1) = m.take (k + 1) := by
  rw [List.take_succ_eq_append_getElem hl, List.take_succ_eq_append_getElem hm, h, he]
theorem ne_of_at {α : Type} {l m : List α} {k : Nat} (hl : k < l.length) (hm : k < m.length) (he : l[k] ≠ m[k]) : l ≠ m := fun h => he (by subst h; rfl)
theorem eq_of_take {α : Type} {l m : List α} {k : Nat} (h : l.take k = m.take k) (hl : k = l.length) (hm : k = m.length) : l = m := by
  have h1 : l.take k = l := by rw [hl, List.take_length]
  have h2 : m.take k = m := by rw [hm, List.take_length]
  rw [← h1, ← h2, h]

theorem mul_bd {a b A B : Int} (h1 : -A ≤ a) (h2 : a ≤ A) (h3 : -B ≤ b) (h4 : b ≤ B) : -(A * B) ≤ a * b ∧ a * b ≤ A * B := by
  have hA : 0 ≤ A := by omega
  have hB : 0 ≤ B := by omega
  have h := Int.natAbs_mul a b
  have ha : a.natAbs ≤ A.natAbs := by omega
  have hb : b.natAbs ≤ B.natAbs := by omega
  have hm : a.natAbs * b.natAbs ≤ A.natAbs * B.natAbs := Nat.mul_le_mul ha hb
  have hAB : (A * B).natAbs = A.natAbs * B.natAbs := Int.natAbs_mul A B
  have h0 : 0 ≤ A * B := Int.mul_nonneg hA hB
  omega

theorem tmod_nat (a n : Nat) : Int.tmod (a : Int) (n : Int) = ((a % n : Nat) : Int) := by rw [Int.tmod_eq_emod_of_nonneg (by omega)]; simp
theorem tmod_nat1 (a n c : Nat) : Int.tmod ((a : Int) + (c : Int)) (n : Int) = (((a + c) % n : Nat) : Int) := by
  have := tmod_nat (a + c) n
  simpa using this

/-! ### marks: consecutive numbers laid over a row -/
def mk (k : Int) (m : Nat) : List Value := (List.range m).map fun (j : Nat) => .int .i64 (k + (j : Int))
theorem mk_len (k : Int) (m : Nat) : (mk k m).length = m := by simp [mk]
theorem mk_succ (k : Int) (m : Nat) : mk k (m + 1) = mk k m ++ [.int .i64 (k + (m : Int))] := by simp [mk, List.range_succ]
/-- The first m cells are marked. -/
def mkd (k : Int) (m : Nat) (xs : List Value) : List Value := mk k m ++ xs.drop m
theorem mkd_zero (k : Int) (xs : List Value) : mkd k 0 xs = xs := by simp [mkd, mk]
theorem mkd_all {k : Int} {m : Nat} {xs : List Value} (h : xs.length ≤ m) : mkd k m xs = mk k m := by simp [mkd, List.drop_eq_nil_of_le h]
theorem mkd_set {k : Int} {m : Nat} {xs : List Value} (h : m < xs.length) : (mkd k m xs).set m (.int .i64 (k + (m : Int))) = mkd k (m + 1) xs := by
  unfold mkd
  rw [mk_succ, List.drop_eq_getElem_cons h, List.set_append_right _ _ (by rw [mk_len]; exact Nat.le_refl _), mk_len, Nat.sub_self, List.set_cons_zero, List.append_assoc]
  rfl
theorem mkd_get {k : Int} {m : Nat} {xs : List Value} (j : Nat) (h : m ≤ j) : (mkd k m xs)[j]? = xs[j]? := by
  unfold mkd
  rw [List.getElem?_append_right (by rw [mk_len]; exact h), mk_len, List.getElem?_drop]
  congr 1; omega
/-- n marked points. -/
def mkP (k : Int) (n : Nat) : List Pt := (List.range n).map fun (i : Nat) => (k + 2 * (i : Int), k + 2 * (i : Int) + 1)
theorem mkP_len (k : Int) (n : Nat) : (mkP k n).length = n := by simp [mkP]
theorem mkP_flat (k : Int) (n : Nat) : (mkP k n).flatMap ptC = mk k (2 * n) := by
  induction n with
  | zero => rfl
  | succ n ih =>
    have e : 2 * (n + 1) = 2 * n + 1 + 1 := by omega
    rw [e, mk_succ, mk_succ, ← ih]
    have e2 : mkP k (n + 1) = mkP k n ++ [(k + 2 * (n : Int), k + 2 * (n : Int) + 1)] := by simp [mkP, List.range_succ]
    rw [e2, List.flatMap_append]
    simp [ptC]
    omega
theorem mkP_get {k : Int} {n i : Nat} (h : i < (mkP k n).length) : (mkP k n)[i] = (k + 2 * (i : Int), k + 2 * (i : Int) + 1) := by simp [mkP]

section
variable {w w' : World} {base : Nat} {e : TypeId}
theorem own_at {sz n cap : Nat} {A : Option Addr} {xs : List Value} (h : Has w base e sz (.slice A n cap) n xs) (hn : 0 < n) : ∃ g, A = some ⟨g, 0, none⟩ ∧ base ≤ g ∧ g < w.heap.size := by
  rcases h.2 with ⟨_, h1⟩ | ⟨g, cap', cur, h1, h2, h3, _⟩
  · omega
  · injection h1 with h1
    exact ⟨g, h1, h2, Row.lt (cs := cur.toList) (by unfold Row; simpa using h3)⟩
theorem only_set {a : World} {g : Nat} (h : a.grownBy w (some g)) (o : Nat) (u : Value) : a.grownBy (w.setCell ⟨g, o, none⟩ u) (some g) :=
  ⟨h.os, h.tape, h.output, by simpa [World.setCell] using h.size, fun i hi hne => (Below.heap_setCell w ⟨g, o, none⟩ u i (by rintro rfl; exact hne rfl)).trans (h.block i hi hne)⟩
theorem only_refl (w : World) (row : Option Nat) : w.grownBy w row := ⟨rfl, rfl, rfl, Nat.le_refl _, fun _ _ _ => rfl⟩
theorem only_ext {a : World} {row : Option Nat} (h : a.grownBy w row) (hx : Ext w w') : a.grownBy w' row :=
  ⟨hx.os.trans h.os, hx.tape.trans h.tape, hx.output.trans h.output, Nat.le_trans h.size hx.size, fun i hi hne => (hx.block i (Nat.lt_of_lt_of_le hi h.size)).trans (h.block i hi hne)⟩
end

/-! ### the plain functions -/
def inB (n lo hi : Int) : Bool := decide (lo ≤ n ∧ n ≤ hi)
def vpB (p : Pt) : Bool := inB p.1 (-1000) 1000 && inB p.2 (-1000) 1000
/-- At most 40 valid points. -/
def psB (ps : List Pt) : Bool := ps.all vpB && decide (ps.length ≤ 40)
def signL (n : Int) : Int := max (-1) (min 1 n)
def crossL (a b c : Pt) : Int := (b.1 - a.1) * (c.2 - b.2) - (b.2 - a.2) * (c.1 - b.1)
/-- A bound that sums and products stay far from. -/
def Crd (n : Int) : Prop := -4000 ≤ n ∧ n ≤ 4000
theorem inB_iff {n lo hi : Int} : inB n lo hi = true ↔ lo ≤ n ∧ n ≤ hi := by simp [inB]
theorem vpB_iff {p : Pt} : vpB p = true ↔ (-1000 ≤ p.1 ∧ p.1 ≤ 1000) ∧ (-1000 ≤ p.2 ∧ p.2 ≤ 1000) := by simp [vpB, inB]
theorem psB_at {ps : List Pt} (h : psB ps = true) {k : Nat} (hk : k < ps.length) : (-1000 ≤ ps[k].1 ∧ ps[k].1 ≤ 1000) ∧ (-1000 ≤ ps[k].2 ∧ ps[k].2 ≤ 1000) := by
  simp only [psB, Bool.and_eq_true, List.all_eq_true] at h
  exact vpB_iff.1 (h.1 _ (List.getElem_mem hk))
theorem psB_crd {ps : List Pt} (h : psB ps = true) {k : Nat} (hk : k < ps.length) : Crd ps[k].1 ∧ Crd ps[k].2 := by
  have := psB_at h hk
  unfold Crd; omega
theorem psB_len {ps : List Pt} (h : psB ps = true) : ps.length ≤ 40 := by
  simp only [psB, Bool.and_eq_true, decide_eq_true_eq] at h
  exact h.2

end Go.Proofs.YtagmnbphbakikaaGreat
namespace Go.Proofs.YtagmnbphbakikaaGreat
open Go Go.RowKit Reg

abbrev Vb := Int × List Pt
theorem ptC_len (p : Pt) : (ptC p).length = 2 := rfl
theorem ptC_one (p : Pt) : ∀ u ∈ ptC p, u.oneCell' = true := by intro u hu; simp [ptC] at hu; rcases hu with rfl | rfl <;> rfl
/-- Are two verbs the same? -/
def vbEq (x y : Vb) : Bool := decide (x = y)
theorem vbEq_iff {x y : Vb} : vbEq x y = true ↔ x = y := by simp [vbEq]
def verbR : World → Vb → List Value → Prop := fun w v us => ∃ A cap, us = [.int .i64 v.1, .slice A v.2.length cap] ∧ Pts w A v.2
theorem verbR_stab : Stab verbR := by
  rintro w w' v us ⟨A, cap, h1, h2⟩ hx
  exact ⟨A, cap, h1, h2.ext ptR_stab hx⟩
abbrev Vbs (w : World) (A : Option Addr) (vs : List Vb) : Prop := In verbR 2 w A vs

theorem In.vbs {w : World} {A : Option Addr} {vs : List Vb} (h : Vbs w A vs) (hn : 0 < vs.length) : ∃ b off, A = some ⟨b, off, none⟩ ∧ b < w.heap.size ∧
    ∀ (k : Nat) (h : k < vs.length), ∃ A' cap, w.cell? ⟨b, off + k * 2, none⟩ = some (.int .i64 vs[k].1) ∧ w.cell? ⟨b, off + k * 2 + 1, none⟩ = some (.slice A' vs[k].2.length cap) ∧ Pts w A' vs[k].2 := by
  have hlt := h.lt (by omega) hn
  obtain ⟨b, off, hA, hc⟩ := h hn
  refine ⟨b, off, hA, hlt b off hA, fun k hk => ?_⟩
  obtain ⟨us, ⟨A', cap, h1, h2⟩, _, h3⟩ := hc k hk
  subst h1
  exact ⟨A', cap, h3 0 _ rfl, h3 1 _ rfl, h2⟩

def zipC (vs : List Vb) (ss : List Value) : List Value := (vs.zip ss).flatMap fun x => [.int .i64 x.1.1, x.2]
theorem zipC_append {vs vs' : List Vb} {ss ss' : List Value} (h : vs.length = ss.length) : zipC (vs ++ vs') (ss ++ ss') = zipC vs ss ++ zipC vs' ss' := by
  unfold zipC
  rw [List.zip_append h, List.flatMap_append]
theorem zipC_len {vs : List Vb} {ss : List Value} (h : ss.length = vs.length) : (zipC vs ss).length = vs.length * 2 := by
  unfold zipC
  rw [flat_len (sz := 2) (fun _ => rfl), List.length_zip, h, Nat.min_self]
theorem zipC_get {vs : List Vb} {ss : List Value} (h : ss.length = vs.length) {k : Nat} (hk : k < vs.length) : (zipC vs ss)[k * 2]? = some (.int .i64 vs[k].1) ∧ (zipC vs ss)[k * 2 + 1]? = some (ss[k]'(by omega)) := by
  have hz : k < (vs.zip ss).length := by rw [List.length_zip]; omega
  have q := fun j hj => flat_get (enc := fun x : Vb × Value => [.int .i64 x.1.1, x.2]) (sz := 2) (fun _ => rfl) (vs.zip ss) [] k hz j hj
  simp only [List.append_nil] at q
  unfold zipC
  exact ⟨by have := q 0 (by decide); simpa using this, by have := q 1 (by decide); simpa using this⟩
theorem zipC_set {vs : List Vb} {ss : List Value} (h : ss.length = vs.length) {k : Nat} (_hk : k < vs.length) (v : Vb) : (zipC vs ss).set (k * 2) (.int .i64 v.1) = zipC (vs.set k v) ss := by
  apply List.ext_getElem?
  intro i
  have hl1 := zipC_len h
  have hl2 := zipC_len (vs := vs.set k v) (ss := ss) (by simpa using h)
  rw [List.length_set] at hl2
  rcases Nat.lt_or_ge i (vs.length * 2) with hi | hi
  · have hj : i / 2 < vs.length := by omega
    obtain ⟨a1, a2⟩ := zipC_get h hj
    obtain ⟨b1, b2⟩ := zipC_get (vs := vs.set k v) (ss := ss) (by simpa using h) (k := i / 2) (by simpa using hj)
    rw [List.getElem?_set]
    rcases Nat.mod_two_eq_zero_or_one i with hm | hm
    · have e : i / 2 * 2 = i := by omega
      rw [e] at a1 b1
      by_cases hki : k * 2 = i
      · have hk2 : i / 2 = k := by omega
        rw [if_pos hki, if_pos (by omega), b1]
        simp [hk2]
      · rw [if_neg hki, a1, b1]
        have : k ≠ i / 2 := by omega
        simp [List.getElem_set_ne this]
    · have e : i / 2 * 2 + 1 = i := by omega
      rw [e] at a2 b2
      rw [if_neg (by omega), a2, b2]
  · rw [List.getElem?_eq_none (by simp; omega), List.getElem?_eq_none (by omega)]

/-- v is a row of verbs of one's own; ss: their points' slices, each a row of its own. -/
structure OVb (w : World) (B : Nat) (TP TV : TypeId) (v : Value) (vs : List Vb) (ss : List Value) : Prop where
  len : ss.length = vs.length
  out : Has w B TV 2 v vs.length (zipC vs ss)
  inn : ∀ (i : Nat) (h : i < vs.length), Has w B TP 2 (ss[i]'(by omega)) vs[i].2.length (vs[i].2.flatMap ptC)
  nd : ∀ (i j : Nat) (hi : i < ss.length) (hj : j < ss.length), i ≠ j → ss[i].ownBlock = none ∨ ss[i].ownBlock ≠ ss[j].ownBlock

section
variable {w w' : World} {B : Nat} {TP TV : TypeId} {v : Value} {vs : List Vb} {ss : List Value}

theorem own_row {e : TypeId} {sz n : Nat} {v : Value} {xs : List Value} (h : Has w B e sz v n xs) {g : Nat} (hg : v.ownBlock = some g) : ∃ cur fz, w.heap[g]? = some (.cells cur e fz) := by
  rcases h.2 with ⟨rfl, _⟩ | ⟨g', cap, cur, rfl, _, h3, _⟩
  · cases hg
  · have : g' = g := by simpa [Value.ownBlock] using hg
    subst this
    exact ⟨_, _, h3⟩
/-- Rows of two element types never share a block. -/
theorem own_ne {e e' : TypeId} {sz sz' n n' : Nat} {v v' : Value} {xs xs' : List Value} (h : Has w B e sz v n xs) {B' : Nat} (h' : Has w B' e' sz' v' n' xs') (hne : e ≠ e') : v.ownBlock = none ∨ v.ownBlock ≠ v'.ownBlock := by
  cases hv : v.ownBlock with
  | none => exact .inl rfl
  | some g =>
    refine .inr fun heq => ?_
    obtain ⟨c, f, h1⟩ := own_row h hv
    obtain ⟨c', f', h2⟩ := own_row h' heq.symm
    rw [h1] at h2
    injection h2 with h2
    injection h2 with _ h3
    exact hne h3

theorem OVb.ext (h : OVb w B TP TV v vs ss) (hx : Ext w w') : OVb w' B TP TV v vs ss := ⟨h.len, own_ext h.out hx, fun i hi => own_ext (h.inn i hi) hx, h.nd⟩
theorem OVb.nil (w : World) (B : Nat) (TP TV : TypeId) : OVb w B TP TV (.slice none 0 0) [] [] := ⟨rfl, own_nil _ _ _ _, fun i hi => by simp at hi, fun i j hi => by simp at hi⟩
theorem OVb.in_ {A : Option Addr} {cap : Nat} (h : OVb w B TP TV (.slice A vs.length cap) vs ss) : Vbs w A vs := by
  intro hn
  obtain ⟨g, hA, _, _⟩ := own_at h.out hn
  subst hA
  refine ⟨g, 0, rfl, fun k hk => ?_⟩
  have hi := h.inn k hk
  obtain ⟨A', cap', hs⟩ := own_form hi
  obtain ⟨z0, z1⟩ := zipC_get h.len hk
  refine ⟨[.int .i64 vs[k].1, .slice A' vs[k].2.length cap'], ⟨A', cap', rfl, own_in (enc := ptC) ptC_len (by decide) (by rw [hs] at hi; exact hi) (fun _ => rfl)⟩, rfl, fun j u hu => ?_⟩
  rw [Nat.zero_add]
  match j, hu with
  | 0, hu =>
    simp at hu; subst hu
    rw [Nat.add_zero, h.out.cellAt _ (by omega), z0]
  | 1, hu =>
    simp at hu; subst hu
    rw [h.out.cellAt _ (by omega), z1, hs]

theorem own_of_row {e : TypeId} {sz g n : Nat} {cs : List Value} (h : Row w g e cs) (hB : B ≤ g) (hl : cs.length = n * sz) (hn : n ≤ 1000000000000) : Has w B e sz (.slice (some ⟨g, 0, none⟩) n n) n cs :=
  ⟨hl, .inr ⟨g, n, cs.toArray, rfl, hB, h, Nat.le_refl _, by simp only [maxLen]; omega, by simp [hl], by rw [← hl]; simp⟩⟩
/-- One more verb, its points in a row that none of the others has. -/
theorem OVb.snoc {v' : Value} {x : Vb} {s : Value} (h : OVb w B TP TV v vs ss) (ho : Has w B TP 2 s x.2.length (x.2.flatMap ptC)) (hT : TP ≠ TV)
    (hf : ∀ (i : Nat) (hi : i < ss.length), (ss[i].ownBlock = none ∨ ss[i].ownBlock ≠ s.ownBlock) ∧ (s.ownBlock = none ∨ s.ownBlock ≠ ss[i].ownBlock))
    (hout : Has w' B TV 2 v' (vs.length + 1) (zipC vs ss ++ [.int .i64 x.1, s])) (hg : w.grownBy w' v.ownBlock) : OVb w' B TP TV v' (vs ++ [x]) (ss ++ [s]) := by
  have hl := h.len
  refine ⟨by simp [hl], ?_, fun i hi => ?_, fun i j hi hj hij => ?_⟩
  · rw [zipC_append hl.symm, List.length_append]
    exact hout
  · simp only [List.length_append, List.length_cons, List.length_nil] at hi
    rcases Nat.lt_or_ge i vs.length with hlt | hge
    · have := (h.inn i hlt).kept hg (own_ne (h.inn i hlt) h.out hT)
      simpa [List.getElem_append_left hlt, List.getElem_append_left (show i < ss.length by omega)] using this
    · have hi' : i = vs.length := by omega
      subst hi'
      have := ho.kept hg (own_ne ho h.out hT)
      have e1 : (vs ++ [x])[vs.length]'(by simp) = x := by simp
      have e2 : (ss ++ [s])[vs.length]'(by simp [hl]) = s := by simp [← hl]
      rw [e1, e2]
      exact this
  · simp only [List.length_append, List.length_cons, List.length_nil] at hi hj
    rcases Nat.lt_or_ge i ss.length with hi1 | hi1 <;> rcases Nat.lt_or_ge j ss.length with hj1 | hj1
    · rw [List.getElem_append_left hi1, List.getElem_append_left hj1]
      exact h.nd i j hi1 hj1 hij
    · obtain rfl : j = ss.length := by omega
      rw [List.getElem_append_left hi1]
      simpa using (hf i hi1).1
    · obtain rfl : i = ss.length := by omega
      rw [List.getElem_append_left hj1]
      simpa using (hf j hj1).2
    · omega

/-- One more verb, its points in a row made since wr. -/
theorem OVb.push {wr w7 : World} {v8 : Value} {w8 : World} {x : Vb} {s : Value} (h : OVb wr B TP TV v vs ss) (hT : TP ≠ TV) (hx : Ext wr w7) (hs : Has w7 B TP 2 s x.2.length (x.2.flatMap ptC))
    (hfr : ∀ g, s.ownBlock = some g → wr.heap.size ≤ g) (hout : Has w8 B TV 2 v8 (vs.length + 1) (zipC vs ss ++ [.int .i64 x.1, s])) (hg : w7.grownBy w8 v.ownBlock) : OVb w8 B TP TV v8 (vs ++ [x]) (ss ++ [s]) := by
  refine (h.ext hx).snoc hs hT (fun i hi => ?_) hout hg
  have hil : i < vs.length := by rw [← h.len]; exact hi
  have hlt := (h.inn i hil).lt
  have key : ∀ g, ss[i].ownBlock = some g → s.ownBlock = some g → False := fun g h1 h2 => by
    have := (hlt g h1).2; have := hfr g h2; omega
  refine ⟨?_, ?_⟩
  · cases hc : ss[i].ownBlock with
    | none => exact .inl rfl
    | some g => exact .inr fun he => key g hc he.symm
  · cases hc : s.ownBlock with
    | none => exact .inl rfl
    | some g => exact .inr fun he => key g he.symm hc
theorem OVb.rebase {B' : Nat} (h : OVb w B TP TV v vs ss) (hB : B' ≤ B) : OVb w B' TP TV v vs ss := ⟨h.len, h.out.rebase hB, fun i hi => (h.inn i hi).rebase hB, h.nd⟩
/-- The outer row copied; the points' rows are shared. -/
theorem OVb.copy {v' : Value} (h : OVb w B TP TV v vs ss) (ho : Has w' B TV 2 v' vs.length (zipC vs ss)) (hx : Ext w w') : OVb w' B TP TV v' vs ss :=
  ⟨h.len, ho, fun i hi => own_ext (h.inn i hi) hx, h.nd⟩
theorem row_mid (w : World) (o1 o3 : Obj) (e : TypeId) (cs : List Value) : Row (((w.alloc o1).alloc (.cells cs.toArray e)).alloc o3) (w.heap.size + 1) e cs := by
  have := (Row.new (w.alloc o1) e cs).alloc o3
  simpa using this

theorem OVb.one (h : OVb w B TP TV v vs ss) : ∀ u ∈ zipC vs ss, u.oneCell' = true := by
  intro u hu
  obtain ⟨x, hx, hu⟩ := List.mem_flatMap.1 hu
  simp only [List.mem_cons, List.not_mem_nil, or_false] at hu
  rcases hu with rfl | rfl
  · rfl
  · obtain ⟨i, hi, hxi⟩ := List.getElem_of_mem hx
    rw [List.length_zip] at hi
    have hh := h.inn i (by omega)
    obtain ⟨A, cap, hs⟩ := own_form hh
    have e : x.2 = ss[i]'(by omega) := by rw [← hxi]; simp
    rw [e, hs]; rfl

/-- Verb k's kind is stored anew. -/
theorem OVb.kind {g cap : Nat} (h : OVb w B TP TV (.slice (some ⟨g, 0, none⟩) vs.length cap) vs ss) (hT : TP ≠ TV) {k : Nat} (hk : k < vs.length) (n : Int) :
    OVb (w.setCell ⟨g, k * 2, none⟩ (.int .i64 n)) B TP TV (.slice (some ⟨g, 0, none⟩) vs.length cap) (vs.set k (n, vs[k].2)) ss := by
  have hs := h.out.stored (k * 2) (.int .i64 n)
  rw [zipC_set h.len hk (n, vs[k].2)] at hs
  refine ⟨by simpa using h.len, by simpa using hs.1, fun i hi => ?_, h.nd⟩
  simp only [List.length_set] at hi
  have hi' := h.inn i hi
  have hk' := hi'.kept hs.2 (by
    have := own_ne hi' h.out hT
    simpa [Value.ownBlock] using this)
  by_cases hik : k = i
  · subst hik; simpa using hk'
  · simpa [List.getElem_set_ne hik] using hk'

/-- Verb k's points are turned, in their own block. -/
theorem OVb.pts (h : OVb w B TP TV v vs ss) (hT : TP ≠ TV) {k : Nat} (hk : k < vs.length) {ps : List Pt}
    (ho : Has w' B TP 2 (ss[k]'(by have := h.len; omega)) ps.length (ps.flatMap ptC)) (hg : w.grownBy w' (ss[k]'(by have := h.len; omega)).ownBlock) : OVb w' B TP TV v (vs.set k (vs[k].1, ps)) ss := by
  have hlen := h.len
  have hz : zipC (vs.set k (vs[k].1, ps)) ss = zipC vs ss := by
    rw [← zipC_set h.len hk]
    obtain ⟨z0, _⟩ := zipC_get h.len hk
    apply List.ext_getElem?
    intro i
    rw [List.getElem?_set]
    split
    · rename_i e; subst e
      split
      · exact z0.symm
      · rename_i hn; rw [zipC_len h.len] at hn; omega
    · rfl
  refine ⟨by simpa using h.len, ?_, fun i hi => ?_, h.nd⟩
  · rw [hz, List.length_set]
    exact h.out.kept hg (by
      have := own_ne h.out (h.inn k hk) (Ne.symm hT)
      exact this)
  · simp only [List.length_set] at hi
    by_cases hik : k = i
    · subst hik; simpa using ho
    · have hi' := (h.inn i hi).kept hg (h.nd i k (by omega) (by omega) (Ne.symm hik))
      simpa [List.getElem_set_ne hik] using hi'
end

/-! ### polygons -/
/-- The verbs of a polygon, without the close. -/
def polyV (ps : List Pt) : List Vb := ps.zipIdx.map fun x => (if 0 < x.2 then 1 else 0, [x.1])
theorem polyV_len (ps : List Pt) : (polyV ps).length = ps.length := by simp [polyV]
theorem polyV_take {ps : List Pt} {k : Nat} (h : k < ps.length) : polyV (ps.take (k + 1)) = polyV (ps.take k) ++ [(if 0 < k then 1 else 0, [ps[k]])] := by
  unfold polyV
  have e : min k ps.length = k := by omega
  rw [List.take_succ_eq_append_getElem h, List.zipIdx_append, List.map_append, List.length_take, e]
  simp only [List.zipIdx_cons, List.zipIdx_nil, List.map_cons, List.map_nil, Nat.zero_add]

/-! ### marks -/
def markV (k : Int) : List Vb → List Vb
  | [] => []
  | v :: vs => (k, mkP (k + 1) v.2.length) :: markV (k + 1 + 2 * (v.2.length : Int)) vs
def endV (k : Int) : List Vb → Int
  | [] => k
  | v :: vs => endV (k + 1 + 2 * (v.2.length : Int)) vs
theorem markV_len (k : Int) (vs : List Vb) : (markV k vs).length = vs.length := by
  induction vs generalizing k with
  | nil => rfl
  | cons v vs ih => simp [markV, ih]
theorem endV_snoc (k : Int) (vs : List Vb) (v : Vb) : endV k (vs ++ [v]) = endV k vs + 1 + 2 * (v.2.length : Int) := by
  induction vs generalizing k with
  | nil => rfl
  | cons a vs ih => simp [endV, ih]
theorem markV_snoc (k : Int) (vs : List Vb) (v : Vb) : markV k (vs ++ [v]) = markV k vs ++ [(endV k vs, mkP (endV k vs + 1) v.2.length)] := by
  induction vs generalizing k with
  | nil => rfl
  | cons a vs ih => simp [endV, markV, ih]
theorem endV_bd (k : Int) (vs : List Vb) (h : ∀ v ∈ vs, v.2.length ≤ 1000000) : k ≤ endV k vs ∧ endV k vs ≤ k + 3000001 * (vs.length : Int) := by
  induction vs generalizing k with
  | nil => simp [endV]
  | cons v vs ih =>
    have h1 := h v List.mem_cons_self
    have h2 := ih (k + 1 + 2 * (v.2.length : Int)) (fun x hx => h x (List.mem_cons_of_mem _ hx))
    simp only [endV, List.length_cons]
    push_cast
    omega
/-- The first j verbs are marked. -/
def mV (k : Int) (j : Nat) (vs : List Vb) : List Vb := markV k (vs.take j) ++ vs.drop j
theorem mV_len (k : Int) (j : Nat) (vs : List Vb) : (mV k j vs).length = vs.length := by
  simp only [mV, List.length_append, markV_len, List.length_take, List.length_drop]; omega
theorem mV_zero (k : Int) (vs : List Vb) : mV k 0 vs = vs := by simp [mV, markV]
theorem mV_all (k : Int) (vs : List Vb) : mV k vs.length vs = markV k vs := by simp [mV]
theorem mV_get {k : Int} {j : Nat} {vs : List Vb} (h : j < vs.length) : (mV k j vs)[j]'(by rw [mV_len]; exact h) = vs[j] := by
  unfold mV
  have : (markV k (vs.take j)).length = j := by rw [markV_len, List.length_take]; omega
  rw [List.getElem_append_right (by omega)]
  simp [this]
theorem mV_set {k : Int} {j : Nat} {vs : List Vb} (h : j < vs.length) : (mV k j vs).set j (endV k (vs.take j), mkP (endV k (vs.take j) + 1) vs[j].2.length) = mV k (j + 1) vs := by
  unfold mV
  have hl : (markV k (vs.take j)).length = j := by rw [markV_len, List.length_take]; omega
  rw [List.set_append_right _ _ (by omega), hl, Nat.sub_self, List.drop_eq_getElem_cons h, List.set_cons_zero, List.take_succ_eq_append_getElem h, markV_snoc, List.append_assoc]
  rfl

theorem OVb.vbs_marked {w : World} {B : Nat} {TP TV : TypeId} {A : Option Addr} {cap : Nat} {vs : List Vb} {k : Int} {ss : List Value} (h : OVb w B TP TV (.slice A vs.length cap) (markV k vs) ss) : Vbs w A (markV k vs) := by
  have h2 : OVb w B TP TV (.slice A (markV k vs).length cap) (markV k vs) ss := by rw [markV_len]; exact h
  exact h2.in_

end Go.Proofs.YtagmnbphbakikaaGreat
namespace Go.Proofs.YtagmnbphbakikaaGreat
open Go Go.RowKit Reg

theorem gen_calls {P : Program} {f : FuncId} {args : Array Value} {W : World} {Q : Ending → World → Prop} (h : ∀ w, w = W → Calls P f args w Q) : Calls P f args W Q := h W rfl
theorem gen_code {P : Program} {c : Code} {Q : Exit → Act → World → Prop} {a : Act} {W : World} (h : ∀ w, w = W → c.wp P Q a w) : c.wp P Q a W := h W rfl
theorem gen_list {P : Program} {ops : Array Oper} {Q : Exit → Act → World → Prop} {l : List Oper} {a : Act} {W : World} (h : ∀ w, w = W → wpList P ops Q l a w) : wpList P ops Q l a W := h W rfl

/-- Where a walk is to stop. -/
def Stop (p : Prop) : Prop := p
theorem stop_in {p : Prop} (h : Stop p) : p := h
theorem stop_out {p : Prop} (h : p) : Stop p := h
def slN : Value → Nat
  | .slice _ n _ => n
  | _ => 0
theorem cell_grown {w w' : World} {row : Option Nat} {p : Addr} {v : Value} (hc : w.cell? p = some v) (hg : w.grownBy w' row) (hne : row ≠ some p.block) : w'.cell? p = some v := by
  have hlt := cell_lt hc
  unfold World.cell? at hc ⊢
  rw [hg.block p.block hlt (fun hh => hne hh.symm)]
  exact hc
theorem ret_sl {A : Option Addr} {n m c : Nat} (h : n = m) : Ending.returned (.slice A n c) = .returned (.slice A m c) := by rw [h]
theorem ret_v {a b : Value} (h : a = b) : Ending.returned a = .returned b := by rw [h]
section
variable {w wa : World} {e1 e2 e3 e4 e5 e6 : TypeId} {c1 c2 c3 c4 c5 c6 : List Value}
theorem new1 (h : wa = w.alloc (.cells c1.toArray e1)) : Ext w wa ∧ Row wa w.heap.size e1 c1 := by
  subst h; exact ⟨ext_alloc _ _, Row.new _ _ _⟩
theorem new2 (h : wa = (w.alloc (.cells c1.toArray e1)).alloc (.cells c2.toArray e2)) : Ext w wa ∧ Row wa w.heap.size e1 c1 ∧ Row wa (w.heap.size + 1) e2 c2 := by
  obtain ⟨h1, h2⟩ := new1 (w := w.alloc (.cells c1.toArray e1)) h
  obtain ⟨k1, k2⟩ := new1 (w := w) (c1 := c1) (e1 := e1) rfl
  exact ⟨Ext.trans k1 h1, k2.ext h1, by simpa using h2⟩
theorem new3 (h : wa = ((w.alloc (.cells c1.toArray e1)).alloc (.cells c2.toArray e2)).alloc (.cells c3.toArray e3)) : Ext w wa ∧ Row wa w.heap.size e1 c1 ∧ Row wa (w.heap.size + 1) e2 c2 ∧ Row wa (w.heap.size + 2) e3 c3 := by
  obtain ⟨h1, h2⟩ := new1 (w := (w.alloc (.cells c1.toArray e1)).alloc (.cells c2.toArray e2)) h
  obtain ⟨k1, k2, k3⟩ := new2 (w := w) (c1 := c1) (e1 := e1) (c2 := c2) (e2 := e2) rfl
  exact ⟨Ext.trans k1 h1, k2.ext h1, k3.ext h1, by simpa using h2⟩
theorem new4 (h : wa = (((w.alloc (.cells c1.toArray e1)).alloc (.cells c2.toArray e2)).alloc (.cells c3.toArray e3)).alloc (.cells c4.toArray e4)) : Ext w wa ∧ Row wa w.heap.size e1 c1 ∧ Row wa (w.heap.size + 1) e2 c2 ∧ Row wa (w.heap.size + 2) e3 c3 ∧ Row wa (w.heap.size + 3) e4 c4 := by
  obtain ⟨h1, h2⟩ := new1 (w := ((w.alloc (.cells c1.toArray e1)).alloc (.cells c2.toArray e2)).alloc (.cells c3.toArray e3)) h
  obtain ⟨k1, k2, k3, k4⟩ := new3 (w := w) (c1 := c1) (e1 := e1) (c2 := c2) (e2 := e2) (c3 := c3) (e3 := e3) rfl
  exact ⟨Ext.trans k1 h1, k2.ext h1, k3.ext h1, k4.ext h1, by simpa using h2⟩
theorem new5 (h : wa = ((((w.alloc (.cells c1.toArray e1)).alloc (.cells c2.toArray e2)).alloc (.cells c3.toArray e3)).alloc (.cells c4.toArray e4)).alloc (.cells c5.toArray e5)) : Ext w wa ∧ Row wa w.heap.size e1 c1 ∧ Row wa (w.heap.size + 1) e2 c2 ∧ Row wa (w.heap.size + 2) e3 c3 ∧ Row wa (w.heap.size + 3) e4 c4 ∧ Row wa (w.heap.size + 4) e5 c5 := by
  obtain ⟨h1, h2⟩ := new1 (w := (((w.alloc (.cells c1.toArray e1)).alloc (.cells c2.toArray e2)).alloc (.cells c3.toArray e3)).alloc (.cells c4.toArray e4)) h
  obtain ⟨k1, k2, k3, k4, k5⟩ := new4 (w := w) (c1 := c1) (e1 := e1) (c2 := c2) (e2 := e2) (c3 := c3) (e3 := e3) (c4 := c4) (e4 := e4) rfl
  exact ⟨Ext.trans k1 h1, k2.ext h1, k3.ext h1, k4.ext h1, k5.ext h1, by simpa using h2⟩
end
section
variable {w w' : World} {B B' e e2 sz sz2 n n2 b : Nat} {v v2 : Value} {xs xs2 cs : List Value}
/-- What is of another type is left alone by what turns an owned row alone. -/
theorem ne_block (hr : Row w b e2 cs) (ho : Has w B e sz v n xs) (he : e ≠ e2) : (some b : Option Nat) ≠ v.ownBlock := by
  intro heq
  rcases ho.2 with ⟨rfl, _⟩ | ⟨g', cap, cur, rfl, _, h3, _⟩
  · cases heq
  · have hb : b = g' := by simpa [Value.ownBlock] using heq
    subst hb
    unfold Row at hr
    rw [h3] at hr
    injection hr with hr
    injection hr with _ h2
    exact he h2
theorem Row.grownNe (hr : Row w b e2 cs) (ho : Has w B e sz v n xs) (he : e ≠ e2) (hg : w.grownBy w' v.ownBlock) : Row w' b e2 cs :=
  (hg.block b hr.lt (ne_block hr ho he)).trans hr
theorem Has.grownNe (h : Has w B' e2 sz2 v2 n2 xs2) (ho : Has w B e sz v n xs) (he : e ≠ e2) (hg : w.grownBy w' v.ownBlock) : Has w' B' e2 sz2 v2 n2 xs2 := by
  refine h.kept hg ?_
  cases hv : v2.ownBlock with
  | none => exact .inl rfl
  | some k =>
    refine .inr fun heq => ?_
    rcases h.2 with ⟨rfl, _⟩ | ⟨g', cap, cur, rfl, _, h3, _⟩
    · cases hv
    · have hk : g' = k := by simpa [Value.ownBlock] using hv
      subst hk
      exact ne_block (cs := cur.toList) (show Row w g' e2 cur.toList by unfold Row; simpa using h3) ho he heq
end
end Go.Proofs.YtagmnbphbakikaaGreat
