/-
  The rule of XRegion with the draws counted (written by gen_regiond.py): a region whose order is open, walked once: operations that yield one value in every world of a class (and only add new blocks) are taken first; what is left is walked in the orders that stay.
-/
import Derived.Orders
import Derived.Still
import Derived.Below
import Derived.Tactics
import Derived.Tactics2
import Derived.Deep.RegionHeld3
namespace Go.Proofs.Yteknlifgejpjfaa.RegD
open Go Go.RowKit

/-- As 'Below'; and draws are counted up. -/
structure BelowD (B : Nat) (w w' : World) : Prop where
  b : Below B w w'
  d : w.drawn ≤ w'.drawn
theorem BelowD.refl (B : Nat) (w : World) : BelowD B w w := ⟨Below.refl B w, Nat.le_refl _⟩
theorem BelowD.trans {B : Nat} {a b c : World} (h : BelowD B a b) (k : BelowD B b c) : BelowD B a c := ⟨h.b.trans k.b, Nat.le_trans h.d k.d⟩
theorem BelowD.mono {B B' : Nat} {w w' : World} (h : BelowD B w w') (hB : B' ≤ B) : BelowD B' w w' := ⟨h.b.mono hB, h.d⟩
theorem BelowD.size {B : Nat} {w w' : World} (h : BelowD B w w') : w.heap.size ≤ w'.heap.size := h.b.size
theorem BelowD.drew {B : Nat} {a w : World} (h : BelowD B a w) : BelowD B a w.drew := ⟨h.b.drew, Nat.le_trans h.d (Nat.le_succ _)⟩
theorem BelowD.cell {B : Nat} {w w' : World} (h : BelowD B w w') {p : Addr} (hp : p.block < B) : w'.cell? p = w.cell? p := h.b.cell hp
theorem BelowD.alloc {B : Nat} {a w : World} (h : BelowD B a w) (hB : B ≤ w.heap.size) (o : Obj) : BelowD B a (w.alloc o) := ⟨h.b.alloc hB o, h.d⟩
theorem BelowD.setCell {B : Nat} {a w : World} (h : BelowD B a w) {p : Addr} (hp : B ≤ p.block) (u : Value) : BelowD B a (w.setCell p u) := ⟨h.b.setCell hp u, h.d⟩

/-- w' is w with new blocks alone. -/
abbrev Ext (w w' : World) : Prop := BelowD w.heap.size w w'

theorem Ext.refl (w : World) : Ext w w := BelowD.refl _ _
theorem Ext.trans {a b c : World} (h : Ext a b) (k : Ext b c) : Ext a c := BelowD.trans h (BelowD.mono k h.size)

/-- The class of a region that began in w0: what lay there lies there still. -/
abbrev Cls (w0 w : World) : Prop := BelowD w0.heap.size w0 w
theorem Cls.ext {w0 a b : World} (h : Cls w0 a) (k : Ext a b) : Cls w0 b := BelowD.trans h (BelowD.mono k h.size)

section
variable {P : Program} {ops : Array Oper} {w0 : World}

def calmUpon (P : Program) (w : World) (v : Value) : Result Next → Prop
  | .ok (.value u) w' => w' = w ∧ u = v
  | .ok .skip w' => w' = w ∧ v = undef
  | .ok (.enter f args) w' => w' = w ∧ Calls P f args w (fun e w'' => e = .returned v ∧ BelowD w.heap.size w w'')
  | _ => False

def calmAt (P : Program) (o : Oper) (a : Act) (w : World) (v : Value) : Prop := calmUpon P w v ((execOp a.eval o).run P w)

/-- One value in every world of the class. -/
def Calm (P : Program) (w0 : World) (ops : Array Oper) (o : Oper) (v : Value) (a : Act) : Prop :=
  (Region.wanted o (yielded ops a.tmps) = true ∧ ∀ w, Cls w0 w → calmAt P o a w v) ∨
  (Region.wanted o (yielded ops a.tmps) = false ∧ v = undef)

theorem Calm.of_same {o : Oper} {v : Value} {a a' : Act} (hy : Calm P w0 ops o v a) (he : execOp a'.eval o = execOp a.eval o)
    (hw : Region.wanted o (yielded ops a'.tmps) = Region.wanted o (yielded ops a.tmps)) : Calm P w0 ops o v a' := by
  unfold Calm calmAt at *
  rw [he, hw]
  exact hy

/-- No way out by a panic. -/
def NoP (Q : Exit → Act → World → Prop) : Exit → Act → World → Prop
  | .panic _, _, _ => False
  | e, a, w => Q e a w
theorem NoP.imp {Q : Exit → Act → World → Prop} : ∀ (e : Exit) (a : Act) (w : World), NoP Q e a w → Q e a w := fun e a w h => by
  cases e <;> first | exact h | exact h.elim

/-- Every order, what follows asked behind whatever new blocks come between. 'keeps i': operation i must leave a world of the class. -/
def wpE (P : Program) (w0 : World) (ops : Array Oper) (keeps : Nat → Bool) (Q : Exit → Act → World → Prop) : Nat → Array Bool → Act → World → Prop
  | 0, listed, a, w => Region.ready .any ops listed = [] ∧ ∀ w', Ext w w' → Q .normal a w'
  | fuel + 1, listed, a, w => ∀ w', Ext w w' →
    (Region.ready .any ops listed = [] → Q .normal a w') ∧
    ∀ i ∈ Region.ready .any ops listed, wpOp P ops (NoP Q) i (fun a' w'' => (keeps i = true → Cls w0 w'') ∧ wpE P w0 ops keeps Q fuel (listed.setIfInBounds i true) a' w'') a w'

theorem wpE_ext {keeps : Nat → Bool} {Q : Exit → Act → World → Prop} : ∀ {fuel : Nat} {listed : Array Bool} {a : Act} {w w' : World},
    wpE P w0 ops keeps Q fuel listed a w → Ext w w' → wpE P w0 ops keeps Q fuel listed a w'
  | 0, _, _, _, _, h, k => ⟨h.1, fun _ k' => h.2 _ (Ext.trans k k')⟩
  | _ + 1, _, _, _, _, h, k => fun _ k' => h _ (Ext.trans k k')

theorem wpOp_noP {Q : Exit → Act → World → Prop} {i : Nat} {K : Act → World → Prop} {a : Act} {w : World} (h : wpOp P ops (NoP Q) i K a w) : wpOp P ops Q i K a w := by
  unfold wpOp at *
  split
  · simpa [*] using h
  · rename_i o ho
    simp only [ho] at h
    split
    · rename_i hw
      simp only [hw, if_true] at h
      rcases h with h | ⟨h, a', w', hq⟩
      · left
        unfold Oper.wp at *
        generalize (execOp a.eval o).run P w = r at *
        cases r with
        | ok n w' =>
          cases n <;> simp only [Oper.upon] at h ⊢ <;> first
            | exact h
            | exact Calls.mono h (fun e w'' he => by cases e <;> first | exact he | exact he.elim | (obtain ⟨a', w3, hq⟩ := he; exact ⟨a', w3, hq⟩))
        | halt x w' => cases x <;> simp only [Oper.upon] at h ⊢ <;> first | exact h | exact h.elim
      · exact .inr ⟨h, a', w', hq⟩
    · rename_i hw; simp only [hw] at h; exact h

theorem wpAny_of_wpE {keeps : Nat → Bool} {Q : Exit → Act → World → Prop} : ∀ (fuel : Nat) (listed : Array Bool) (a : Act) (w : World),
    wpE P w0 ops keeps Q fuel listed a w → wpAny P .any ops Q fuel listed a w
  | 0, _, _, _, h => ⟨h.1, h.2 _ (Ext.refl _)⟩
  | fuel + 1, _, _, w, h => ⟨fun h0 => (h w (Ext.refl _)).1 h0, fun i hi => wpOp_mono (fun a' w' h' => wpAny_of_wpE fuel _ a' w' h'.2) (wpOp_noP ((h w (Ext.refl _)).2 i hi))⟩

theorem Calm.wpOp {Q : Exit → Act → World → Prop} {i : Nat} {o : Oper} {v : Value} {a : Act} {w : World} (hi : ops[i]? = some o) (hy : Calm P w0 ops o v a) (hw : Cls w0 w) {K : Act → World → Prop}
    (h : ∀ w', Ext w w' → K (a.put o.dst v) w') : wpOp P ops Q i K a w := by
  unfold Go.wpOp
  simp only [hi]
  rcases hy with ⟨hwt, hv⟩ | ⟨hwt, rfl⟩
  · simp only [hwt, if_true]
    left
    have h1 := hv w hw
    unfold calmAt at h1
    unfold Oper.wp
    generalize (execOp a.eval o).run P w = r at *
    cases r with
    | ok n w' =>
      cases n <;> simp only [calmUpon, Oper.upon] at h1 ⊢ <;> first
        | exact h1.elim
        | (obtain ⟨rfl, rfl⟩ := h1; exact h _ (Ext.refl _))
        | (obtain ⟨rfl, h2⟩ := h1; exact Calls.mono h2 (fun e w'' he => by obtain ⟨rfl, h3⟩ := he; exact h _ h3))
    | halt x w' => exact h1.elim
  · simp only [hwt, Bool.false_eq_true, if_false]
    exact h _ (Ext.refl _)

/-- An operation apart from a calm one. -/
theorem wpOp_put {Q : Exit → Act → World → Prop} {j : Nat} {oi oj : Oper} {v : Value} (hj : ops[j]? = some oj) (hap : oi.apart ops oj = true)
    (hsi : ∀ cs b, oi.op ≠ .select cs b) (hsj : ∀ cs b, oj.op ≠ .select cs b) {K : Act → World → Prop} {a : Act} {w : World}
    (hy : Calm P w0 ops oi v a) (h : wpOp P ops (NoP Q) j K (a.put oi.dst v) w) :
    wpOp P ops (NoP Q) j (fun a' w' => Calm P w0 ops oi v a' ∧ K (a'.put oi.dst v) w') a w := by
  obtain ⟨h1, h2, h3⟩ := Oper.apart_spec hap
  have keep : ∀ (a : Act), Calm P w0 ops oi v a → ∀ u, Calm P w0 ops oi v (a.put oj.dst u) := fun a hy u =>
    hy.of_same (execOp_put oi hsi a oj.dst u h3) (wanted_put oi a oj.dst u h3)
  have keepD : ∀ d, Calm P w0 ops oi v { a with defers := d :: a.defers } := fun d => hy.of_same rfl rfl
  unfold wpOp at *
  simp only [hj] at *
  rw [wanted_put oj a oi.dst v h1] at h
  split
  · rename_i hw
    simp only [hw, if_true] at h
    rcases h with h | ⟨h, hq⟩
    · left
      unfold Oper.wp at *
      rw [execOp_put oj hsj a oi.dst v h1] at h
      generalize (execOp a.eval oj).run P w = r at *
      cases r with
      | ok n w' =>
        cases n with
        | value u => exact ⟨keep a hy u, by rw [← Act.put_comm a v u h2]; exact h⟩
        | skip => exact ⟨keep a hy _, by rw [← Act.put_comm a v undef h2]; exact h⟩
        | defer d =>
          refine ⟨(keep _ (keepD d) _), ?_⟩
          rw [← Act.put_comm _ v undef h2, ← Act.put_defers]
          exact h
        | enter f args =>
          refine Calls.mono h (fun e w'' he => ?_)
          cases e with
          | returned u => exact ⟨keep a hy u, by rw [← Act.put_comm a v u h2]; exact he⟩
          | panicked c => exact he.elim
          | outgrown => exact he
        | row r args => exact Rows.mono h (fun u w'' he => ⟨keep a hy u, by rw [← Act.put_comm a v u h2]; exact he⟩)
        | _ => exact h.elim
      | halt x w' => cases x <;> exact h.elim
    · refine .inr ⟨?_, hq⟩
      unfold Oper.asks at *
      rwa [execOp_put oj hsj a oi.dst v h1] at h
  · rename_i hw
    simp only [hw] at h
    exact ⟨keep a hy _, by rw [← Act.put_comm a v undef h2]; exact h⟩

/-! ### who waits for whom -/

/-- What is listed has what it waits for listed. -/
def Down (ops : Array Oper) (listed : Array Bool) : Prop :=
  ∀ j o, ops[j]? = some o → listed.getD j false = true → ∀ e ∈ o.after, Region.binds .any e = true → listed.getD e.on false = true

def ancOf (acc : Array Nat) (es : List Edge) : Nat :=
  es.foldl (fun s e => if Region.binds .any e then s ||| 2 ^ e.on ||| acc.getD e.on 0 else s) 0

def ancs : List Oper → Array Nat → Array Nat
  | [], acc => acc
  | o :: l, acc => ancs l (acc.push (ancOf acc o.after.toList))

theorem ancOf_bit {acc : Array Nat} {i : Nat} : ∀ (es : List Edge) (s : Nat), (es.foldl (fun s e => if Region.binds .any e then s ||| 2 ^ e.on ||| acc.getD e.on 0 else s) s).testBit i = true →
    s.testBit i = true ∨ ∃ e ∈ es, Region.binds .any e = true ∧ (e.on = i ∨ (acc.getD e.on 0).testBit i = true)
  | [], s, h => .inl h
  | e :: es, s, h => by
    simp only [List.foldl_cons] at h
    rcases ancOf_bit es _ h with h | ⟨e', he', hb, h⟩
    · by_cases hb : Region.binds .any e = true
      · simp only [hb, if_true, Nat.testBit_or, Bool.or_eq_true] at h
        rcases h with (h | h) | h
        · exact .inl h
        · right
          refine ⟨e, List.mem_cons_self, hb, .inl ?_⟩
          rw [Nat.testBit_two_pow] at h
          simpa using h
        · exact .inr ⟨e, List.mem_cons_self, hb, .inr h⟩
      · simp only [hb] at h
        exact .inl h
    · exact .inr ⟨e', List.mem_cons_of_mem _ he', hb, h⟩

/-- Each entry so far: a bit set means: listed, wherever all that the entry waits for is. -/
def AccOk (ops : Array Oper) (listed : Array Bool) (acc : Array Nat) : Prop :=
  ∀ k o i, k < acc.size → ops[k]? = some o → (∀ e ∈ o.after, Region.binds .any e = true → listed.getD e.on false = true) → (acc.getD k 0).testBit i = true → listed.getD i false = true

theorem ancs_ok {listed : Array Bool} (hd : Down ops listed) : ∀ (l : List Oper) (acc : Array Nat), (∀ j, l[j]? = ops[acc.size + j]?) → AccOk ops listed acc → AccOk ops listed (ancs l acc)
  | [], acc, _, h => h
  | o :: l, acc, hl, h => by
    refine ancs_ok hd l _ (fun j => ?_) ?_
    · have := hl (j + 1)
      simp only [List.getElem?_cons_succ] at this
      rw [this, Array.size_push]
      congr 1; omega
    · intro k ok i hk hok hall hbit
      rcases Nat.lt_or_ge k acc.size with hlt | hge
      · refine h k ok i hlt hok hall ?_
        have : (acc.push (ancOf acc o.after.toList)).getD k 0 = acc.getD k 0 := by
          simp [Array.getElem?_push_lt hlt, hlt]
        rwa [this] at hbit
      · have hk' : k = acc.size := by rw [Array.size_push] at hk; omega
        subst hk'
        have ho : some o = ops[acc.size]? := by simpa using hl 0
        rw [hok] at ho
        injection ho with ho
        subst ho
        have hg : (acc.push (ancOf acc o.after.toList)).getD acc.size 0 = ancOf acc o.after.toList := by simp
        rw [hg] at hbit
        rcases ancOf_bit _ _ hbit with h0 | ⟨e, he, hb, h1⟩
        · simp at h0
        · have hle := hall e (by simpa using he) hb
          rcases h1 with rfl | h1
          · exact hle
          · rcases Nat.lt_or_ge e.on acc.size with hlt | hge'
            · cases hoe : ops[e.on]? with
              | none =>
                exact absurd (Array.getElem?_eq_some_iff.1 hok).1 (by have := Array.getElem?_eq_none_iff.1 hoe; omega)
              | some oe => exact h e.on oe i hlt hoe (hd e.on oe hoe hle) h1
            · simp [Array.getElem?_eq_none hge'] at h1

/-- i waits behind j's back: j can't come up while i has not. -/
def waits (ops : Array Oper) (j i : Nat) : Bool := ((ancs ops.toList #[]).getD j 0).testBit i

theorem ancs_size : ∀ (l : List Oper) (acc : Array Nat), (ancs l acc).size = acc.size + l.length
  | [], acc => by simp [ancs]
  | o :: l, acc => by simp only [ancs]; rw [ancs_size l, Array.size_push, List.length_cons]; omega

theorem waits_listed {listed : Array Bool} (hd : Down ops listed) {j i : Nat} (hj : j ∈ Region.ready .any ops listed) (h : waits ops j i = true) : listed.getD i false = true := by
  obtain ⟨_, oj, hoj, hall⟩ := mem_ready.1 hj
  have ok := ancs_ok hd ops.toList #[] (fun k => by simp) (fun k o i hk => by simp at hk)
  refine ok j oj i ?_ hoj hall h
  rw [ancs_size]; simpa using (Array.getElem?_eq_some_iff.1 hoj).1

theorem Down.set {listed : Array Bool} (hd : Down ops listed) {i : Nat} (hi : i ∈ Region.ready .any ops listed) : Down ops (listed.setIfInBounds i true) := by
  intro j o ho hl e he hb
  obtain ⟨_, oi, hoi, hall⟩ := mem_ready.1 hi
  have key : listed.getD e.on false = true := by
    by_cases hij : i = j
    · subst hij
      rw [hoi] at ho; injection ho with ho; subst ho
      exact hall e he hb
    · rw [getD_set_ne false hij] at hl
      exact hd j o ho hl e he hb
  exact getD_set_true key

theorem down_init (n : Nat) : Down ops (Array.replicate n false) := by
  intro j o _ h
  exfalso
  rcases Nat.lt_or_ge j n with hlt | hge
  · simp [hlt] at h
  · simp [hge] at h

/-- **A calm operation that may come up now may be taken first.** -/
theorem wpE_first {keeps : Nat → Bool} {Q : Exit → Act → World → Prop} {i : Nat} {oi : Oper} {v : Value} (hi : ops[i]? = some oi) (hsel : ∀ (j : Nat) (o : Oper) cs b, ops[j]? = some o → o.op ≠ .select cs b)
    (hfree : ∀ j oj, ops[j]? = some oj → j ≠ i → waits ops j i = false → waits ops i j = false → oi.apart ops oj = true ∧ keeps j = true) :
    ∀ (fuel : Nat) (listed : Array Bool) (a : Act) (w : World), Down ops listed → Cls w0 w →
      i ∈ Region.ready .any ops listed → (∀ j, waits ops i j = true → listed.getD j false = true) → Calm P w0 ops oi v a →
      wpE P w0 ops keeps Q fuel (listed.setIfInBounds i true) (a.put oi.dst v) w → wpE P w0 ops keeps Q (fuel + 1) listed a w := by
  intro fuel
  induction fuel with
  | zero =>
    intro listed a w hdn hC hr hanc hy H w' hx
    refine ⟨fun h => (by rw [h] at hr; cases hr), fun j hj => ?_⟩
    by_cases hji : j = i
    · subst hji
      exact hy.wpOp hi (Cls.ext hC hx) (fun w'' hx' => ⟨fun _ => Cls.ext (Cls.ext hC hx) hx', wpE_ext H (Ext.trans hx hx')⟩)
    · have := ready_mono hj hji
      rw [H.1] at this
      cases this
  | succ fuel ih =>
    intro listed a w hdn hC hr hanc hy H w' hx
    refine ⟨fun h => (by rw [h] at hr; cases hr), fun j hj => ?_⟩
    by_cases hji : j = i
    · subst hji
      exact hy.wpOp hi (Cls.ext hC hx) (fun w'' hx' => ⟨fun _ => Cls.ext (Cls.ext hC hx) hx', wpE_ext H (Ext.trans hx hx')⟩)
    · have h1 := (H w' hx).2 j (ready_mono hj hji)
      obtain ⟨hjun, oj, hoj, hall⟩ := mem_ready.1 hj
      have hiun := (mem_ready.1 hr).1
      have hun : ∀ k, listed.getD k true = false → ¬ listed.getD k false = true := fun k h0 h1 => by
        rcases Nat.lt_or_ge k listed.size with h' | h'
        · simp [h'] at h0 h1; rw [h0] at h1; cases h1
        · simp [Array.getElem?_eq_none h'] at h1
      have hnw : waits ops j i = false := by
        cases hwt : waits ops j i with
        | false => rfl
        | true => exact absurd (waits_listed hdn hj hwt) (hun i hiun)
      have hnw' : waits ops i j = false := by
        cases hwt : waits ops i j with
        | false => rfl
        | true => exact absurd (hanc j hwt) (hun j hjun)
      obtain ⟨hap, hkp⟩ := hfree j oj hoj hji hnw hnw'
      have h2 := wpOp_put hoj hap (fun cs b => hsel i oi cs b hi) (fun cs b => hsel j oj cs b hoj) hy h1
      refine wpOp_mono (fun a' w'' h3 => ⟨h3.2.1, ih (listed.setIfInBounds j true) a' w'' (hdn.set hj) (h3.2.1 hkp) (ready_mono hr (Ne.symm hji)) (fun k hk => getD_set_true (hanc k hk)) h3.1 ?_⟩) h2
      rw [Array.setIfInBounds_comm _ _ hji]
      exact h3.2.2

/-! ### the walk -/

/-- May operation i be taken first, these being listed? -/
def firstB (ops : Array Oper) (keeps : Nat → Bool) (listed : Array Bool) (i : Nat) : Bool :=
  (Region.ready .any ops listed).contains i && (List.range ops.size).all (fun j => !waits ops i j || listed.getD j false) &&
    match ops[i]? with
    | none => false
    | some oi => (List.range ops.size).all fun j => j == i || waits ops j i || waits ops i j || match ops[j]? with
      | some oj => oi.apart ops oj && keeps j
      | none => true

theorem waits_lt {j i : Nat} (h : waits ops j i = true) (hb : ∀ (k : Nat) (o : Oper), ops[k]? = some o → ∀ e ∈ o.after, e.on < ops.size) : i < ops.size := by
  have key : ∀ (l : List Oper) (acc : Array Nat), (∀ o ∈ l, ∀ e ∈ o.after, e.on < ops.size) → (∀ k i, (acc.getD k 0).testBit i = true → i < ops.size) → ∀ k i, ((ancs l acc).getD k 0).testBit i = true → i < ops.size := by
    intro l
    induction l with
    | nil => intro acc _ h; exact h
    | cons o l ih =>
      intro acc hl hacc
      refine ih _ (fun o' ho' => hl o' (List.mem_cons_of_mem _ ho')) ?_
      intro k i hbit
      rcases Nat.lt_trichotomy k acc.size with hlt | rfl | hgt
      · refine hacc k i ?_
        have : (acc.push (ancOf acc o.after.toList)).getD k 0 = acc.getD k 0 := by
          simp [Array.getElem?_push_lt hlt, hlt]
        rwa [this] at hbit
      · have hg : (acc.push (ancOf acc o.after.toList)).getD acc.size 0 = ancOf acc o.after.toList := by simp
        rw [hg] at hbit
        rcases ancOf_bit _ _ hbit with h0 | ⟨e, he, _, h1⟩
        · simp at h0
        · rcases h1 with rfl | h1
          · exact hl o List.mem_cons_self e (by simpa using he)
          · exact hacc _ _ h1
      · have hnone : (acc.push (ancOf acc o.after.toList))[k]? = none := Array.getElem?_eq_none (by rw [Array.size_push]; omega)
        rw [Array.getD_eq_getD_getElem?, hnone] at hbit
        simp at hbit
  refine key ops.toList #[] ?_ ?_ j i h
  · intro o ho e he
    obtain ⟨k, hk⟩ := List.getElem?_of_mem ho
    exact hb k o (by simpa using hk) e he
  · intro k i h0; simp at h0

/-- The checks of the whole region. -/
def okB (ops : Array Oper) : Bool := Region.noSelect ops && ops.all fun o => o.after.all fun e => e.on < ops.size

theorem wpE_take {keeps : Nat → Bool} {Q : Exit → Act → World → Prop} {i : Nat} {oi : Oper} {v : Value} {fuel : Nat} {listed : Array Bool} {a : Act} {w : World}
    (hok : okB ops = true) (hi : ops[i]? = some oi) (hf : firstB ops keeps listed i = true) (hd : Down ops listed) (hC : Cls w0 w) (hy : Calm P w0 ops oi v a)
    (h : Down ops (listed.setIfInBounds i true) → wpE P w0 ops keeps Q fuel (listed.setIfInBounds i true) (a.put oi.dst v) w) : wpE P w0 ops keeps Q (fuel + 1) listed a w := by
  unfold okB at hok
  simp only [Bool.and_eq_true] at hok
  have hb : ∀ (k : Nat) (o : Oper), ops[k]? = some o → ∀ e ∈ o.after, e.on < ops.size := by
    intro k o ho e he
    have h1 := Array.all_eq_true'.1 hok.2 o (Array.mem_of_getElem? ho)
    have h2 := Array.all_eq_true'.1 h1 e he
    simpa using h2
  simp only [firstB, hi, Bool.and_eq_true, List.all_eq_true, List.mem_range] at hf
  obtain ⟨⟨h1, h2⟩, h3⟩ := hf
  have hr : i ∈ Region.ready .any ops listed := by simpa using h1
  refine wpE_first hi (Region.noSelect_spec hok.1) (fun j oj hoj hne hw1 hw2 => ?_) fuel listed a w hd hC hr (fun j hj => ?_) hy (h (hd.set hr))
  · have := h3 j (Array.getElem?_eq_some_iff.1 hoj).1
    simp only [hoj, hw1, hw2, Bool.or_false, Bool.or_eq_true, beq_iff_eq, hne, false_or, Bool.and_eq_true] at this
    exact this
  · have := h2 j (waits_lt hj hb)
    simpa [hj] using this

/-- A walk over the calm operations, in the order of the list, then the rest. -/
def wpCalm (P : Program) (w0 : World) (ops : Array Oper) (K : Act → Prop) : List Nat → Act → Prop
  | [], a => K a
  | i :: l, a => match ops[i]? with
    | none => False
    | some o => ∃ v, Calm P w0 ops o v a ∧ wpCalm P w0 ops K l (a.put o.dst v)

def listAll (listed : Array Bool) : List Nat → Array Bool
  | [] => listed
  | i :: l => listAll (listed.setIfInBounds i true) l

def calmB (ops : Array Oper) (keeps : Nat → Bool) : Array Bool → List Nat → Bool
  | _, [] => true
  | listed, i :: l => firstB ops keeps listed i && calmB ops keeps (listed.setIfInBounds i true) l

theorem wpE_calm {keeps : Nat → Bool} {Q : Exit → Act → World → Prop} (hok : okB ops = true) : ∀ (l : List Nat) (fuel : Nat) (listed : Array Bool) (a : Act) (w : World), Down ops listed → Cls w0 w → calmB ops keeps listed l = true →
    wpCalm P w0 ops (fun a' => ∀ w', Cls w0 w' → wpE P w0 ops keeps Q fuel (listAll listed l) a' w') l a → wpE P w0 ops keeps Q (fuel + l.length) listed a w
  | [], _, _, _, _, _, hC, _, h => h _ hC
  | i :: l, fuel, listed, a, w, hd, hC, hB, h => by
    simp only [calmB, Bool.and_eq_true] at hB
    simp only [wpCalm] at h
    cases hi : ops[i]? with
    | none => simp only [hi] at h
    | some o =>
      simp only [hi] at h
      obtain ⟨v, hy, hK⟩ := h
      have e : fuel + (i :: l).length = (fuel + l.length) + 1 := by simp [Nat.add_assoc]
      rw [e]
      exact wpE_take hok hi hB.1 hd hC hy fun hd' => wpE_calm hok l fuel _ _ w hd' hC hB.2 hK

/-- The late operations: what they come to, one after the other; new blocks may come between. -/
def wpLate (P : Program) (w0 : World) (ops : Array Oper) (keeps : Nat → Bool) (Q : Exit → Act → World → Prop) : List Nat → Act → World → Prop
  | [], a, w => ∀ w', Ext w w' → Q .normal a w'
  | i :: l, a, w => ∀ w', Ext w w' → wpOp P ops (NoP Q) i (fun a' w'' => (keeps i = true → Cls w0 w'') ∧ wpLate P w0 ops keeps Q l a' w'') a w'

def lateB (ops : Array Oper) : Array Bool → List Nat → Bool
  | listed, [] => (Region.ready .any ops listed).isEmpty
  | listed, i :: l => (Region.ready .any ops listed == [i]) && lateB ops (listed.setIfInBounds i true) l

theorem wpE_late {keeps : Nat → Bool} {Q : Exit → Act → World → Prop} : ∀ (l : List Nat) (listed : Array Bool) (a : Act) (w : World), lateB ops listed l = true → wpLate P w0 ops keeps Q l a w → wpE P w0 ops keeps Q l.length listed a w
  | [], listed, a, w, hB, h => ⟨by simpa [lateB] using hB, h⟩
  | i :: l, listed, a, w, hB, h => fun w' hx => by
    simp only [lateB, Bool.and_eq_true, beq_iff_eq] at hB
    refine ⟨fun h0 => (by rw [hB.1] at h0; cases h0), fun j hj => ?_⟩
    rw [hB.1] at hj
    obtain rfl : j = i := by simpa using hj
    exact wpOp_mono (fun a' w'' h' => ⟨h'.1, wpE_late l _ a' w'' hB.2 h'.2⟩) (h w' hx)

/-- Which late operations must leave a world of the class: those that some calm one need not come before. -/
def keepsOf (ops : Array Oper) (calm : List Nat) (j : Nat) : Bool := !calm.all fun i => waits ops j i

def regionB (ops : Array Oper) (calm late : List Nat) : Bool :=
  okB ops && (ops.size == late.length + calm.length) && calmB ops (fun j => calm.contains j || keepsOf ops calm j) (Array.replicate ops.size false) calm && lateB ops (listAll (Array.replicate ops.size false) calm) late

/-- **THE RULE.** -/
theorem wp_region_calm {id : Nat} {Q : Exit → Act → World → Prop} {a : Act} {w : World} {l : List Oper} (calm late : List Nat) (hm : P.follows .mixedOrders = true) (hB : regionB l.toArray calm late = true)
    (h : wpCalm P w.drew l.toArray (fun a' => ∀ w', Cls w.drew w' → wpLate P w.drew l.toArray (fun j => calm.contains j || keepsOf l.toArray calm j) Q late a' w') calm a) : (Code.region id l.toArray true).wp P Q a w := by
  simp only [regionB, Bool.and_eq_true, beq_iff_eq] at hB
  obtain ⟨⟨⟨h1, h2⟩, h3⟩, h4⟩ := hB
  refine wp_region_any hm ?_
  refine wpAny_of_wpE (w0 := w.drew) (keeps := fun j => calm.contains j || keepsOf l.toArray calm j) _ _ _ _ ?_
  rw [h2]
  refine wpE_calm h1 calm late.length _ a w.drew (by rw [← h2]; exact down_init _) (BelowD.refl _ _) (by rw [← h2]; exact h3) ?_
  have mono : ∀ (c : List Nat) (a : Act) (K K' : Act → Prop), (∀ a, K a → K' a) → wpCalm P w.drew l.toArray K c a → wpCalm P w.drew l.toArray K' c a := by
    intro c
    induction c with
    | nil => intro a K K' hk h; exact hk _ h
    | cons i c ih =>
      intro a K K' hk h
      simp only [wpCalm] at h ⊢
      cases hi : l.toArray[i]? with
      | none => simp only [hi] at h
      | some o =>
        simp only [hi] at h ⊢
        obtain ⟨v, hy, hK⟩ := h
        exact ⟨v, hy, ih _ K K' hk hK⟩
  exact mono calm a _ _ (fun a' h' w' hw' => wpE_late late _ a' w' (by rw [← h2]; exact h4) (h' w' hw')) h

/-! ### steps -/
theorem calm_yes {K : Act → Prop} {i : Nat} {l : List Nat} {a : Act} {o : Oper} {v : Value} (hi : ops[i]? = some o) (hw : Region.wanted o (yielded ops a.tmps) = true)
    (hv : ∀ w, Cls w0 w → calmAt P o a w v) (h : ∀ K' : Act → Prop, (∀ a, wpCalm P w0 ops K l a → K' a) → K' (a.put o.dst v)) : wpCalm P w0 ops K (i :: l) a := by
  simp only [wpCalm, hi]
  exact ⟨v, .inl ⟨hw, hv⟩, h _ fun _ h => h⟩
theorem calm_no {K : Act → Prop} {i : Nat} {l : List Nat} {a : Act} {o : Oper} (hi : ops[i]? = some o) (hw : Region.wanted o (yielded ops a.tmps) = false)
    (h : ∀ K' : Act → Prop, (∀ a, wpCalm P w0 ops K l a → K' a) → K' (a.put o.dst undef)) : wpCalm P w0 ops K (i :: l) a := by
  simp only [wpCalm, hi]
  exact ⟨undef, .inr ⟨hw, rfl⟩, h _ fun _ h => h⟩
theorem run_call_fn {a : Act} {o : Oper} {f : FuncId} {fn : Func} {xs : Array Operand} {ts : Array TypeId} (w : World) (hop : o.op = .call { callee := .value (.func f), args := xs, argTypes := ts })
    (hf : P.funcs[f]? = some fn) (hn : (fn.name == "runtime.NumGoroutine") = false) (hb : fn.body.isNone = false) : (execOp a.eval o).run P w = .ok (.enter f (xs.map a.eval)) w := by
  have h1 : (program : Sem Program).run P w = .ok P w := rfl
  have hn' : ¬ fn.name = "runtime.NumGoroutine" := by simpa using hn
  have hb' : ¬ fn.body = none := by intro h; rw [h] at hb; cases hb
  simp [execOp, hop, resolve, Act.eval, Deferred.ofValue, invoke, callFunc, h1, hf, hb', hn']
theorem calm_call {K : Act → Prop} {i : Nat} {l : List Nat} {a : Act} {o : Oper} {v : Value} {f : FuncId} {fn : Func} {xs : Array Operand} {ts : Array TypeId} {args : Array Value}
    (hi : ops[i]? = some o) (hw : Region.wanted o (yielded ops a.tmps) = true) (hop : o.op = .call { callee := .value (.func f), args := xs, argTypes := ts })
    (hf : P.funcs[f]? = some fn) (hn : (fn.name == "runtime.NumGoroutine") = false) (hb : fn.body.isNone = false) (hx : xs.map a.eval = args)
    (hc : ∀ w, Cls w0 w → Calls P f args w (fun e w'' => e = .returned v ∧ BelowD w.heap.size w w''))
    (h : ∀ K' : Act → Prop, (∀ a, wpCalm P w0 ops K l a → K' a) → K' (a.put o.dst v)) : wpCalm P w0 ops K (i :: l) a :=
  calm_yes hi hw (fun w hC => by unfold calmAt; rw [run_call_fn w hop hf hn hb, hx]; exact ⟨rfl, hc w hC⟩) h
theorem run_call_clo {a : Act} {o : Oper} {f : FuncId} {fn : Func} {x : Operand} {first capt : Array Value} {xs : Array Operand} {ts : Array TypeId} (w : World) (hop : o.op = .call { callee := .value x, args := xs, argTypes := ts })
    (hx : a.eval x = .func (.func f) first capt) (hf : P.funcs[f]? = some fn) (hn : (fn.name == "runtime.NumGoroutine") = false) (hb : fn.body.isNone = false) : (execOp a.eval o).run P w = .ok (.enter f (first ++ xs.map a.eval ++ capt)) w := by
  have h1 : (program : Sem Program).run P w = .ok P w := rfl
  have hn' : ¬ fn.name = "runtime.NumGoroutine" := by simpa using hn
  have hb' : ¬ fn.body = none := by intro h; rw [h] at hb; cases hb
  simp [execOp, hop, resolve, hx, Deferred.ofValue, invoke, callFunc, h1, hf, hb', hn']
theorem calm_clo {K : Act → Prop} {i : Nat} {l : List Nat} {a : Act} {o : Oper} {v : Value} {f : FuncId} {fn : Func} {x : Operand} {first capt : Array Value} {xs : Array Operand} {ts : Array TypeId} {args : Array Value}
    (hi : ops[i]? = some o) (hw : Region.wanted o (yielded ops a.tmps) = true) (hop : o.op = .call { callee := .value x, args := xs, argTypes := ts }) (hv : a.eval x = .func (.func f) first capt)
    (hf : P.funcs[f]? = some fn) (hn : (fn.name == "runtime.NumGoroutine") = false) (hb : fn.body.isNone = false) (hx : first ++ xs.map a.eval ++ capt = args)
    (hc : ∀ w, Cls w0 w → Calls P f args w (fun e w'' => e = .returned v ∧ BelowD w.heap.size w w''))
    (h : ∀ K' : Act → Prop, (∀ a, wpCalm P w0 ops K l a → K' a) → K' (a.put o.dst v)) : wpCalm P w0 ops K (i :: l) a :=
  calm_yes hi hw (fun w hC => by unfold calmAt; rw [run_call_clo w hop hv hf hn hb, hx]; exact ⟨rfl, hc w hC⟩) h
/-- Behind the calm operations: nothing is left. -/
theorem calm_end {Q : Exit → Act → World → Prop} {keeps : Nat → Bool} {w1 : World} {a : Act} (h : ∀ w', Ext w1 w' → Q .normal a w') (hw : ∀ w', Cls w0 w' → Ext w1 w') :
    wpCalm P w0 ops (fun a' => ∀ w', Cls w0 w' → wpLate P w0 ops keeps Q [] a' w') [] a := fun _ hC _ hx => h _ (hw _ (Cls.ext hC hx))
theorem calm_done {Q : Exit → Act → World → Prop} {keeps : Nat → Bool} {w : World} {a : Act} (h : ∀ w', Ext w w' → Q .normal a w') :
    wpCalm P w.drew ops (fun a' => ∀ w', Cls w.drew w' → wpLate P w.drew ops keeps Q [] a' w') [] a := fun _ hC _ hx => h _ (BelowD.trans (BelowD.refl _ w).drew (Cls.ext hC hx))
theorem calm_nil {K : Act → Prop} {a : Act} (h : K a) : wpCalm P w0 ops K [] a := h
/-- A cell of the region's first world is in every world of the class. -/
theorem Cls.cell {a w : World} (h : Cls a w) {p : Addr} {v : Value} (hc : a.cell? p = some v) : w.cell? p = some v := by
  have hlt : p.block < a.heap.size := by
    unfold World.cell? at hc
    rcases Nat.lt_or_ge p.block a.heap.size with h | h
    · exact h
    · rw [Array.getElem?_eq_none h] at hc; cases hc
  rw [BelowD.cell h hlt]; exact hc
theorem late_nil {Q : Exit → Act → World → Prop} {keeps : Nat → Bool} {a : Act} {w : World} (h : ∀ w', Ext w w' → Q .normal a w') : wpLate P w0 ops keeps Q [] a w := h
theorem late_step {Q : Exit → Act → World → Prop} {keeps : Nat → Bool} {i : Nat} {l : List Nat} {a : Act} {w : World} {o : Oper} (hi : ops[i]? = some o) (hw : Region.wanted o (yielded ops a.tmps) = true)
    (h : ∀ w', Ext w w' → ∀ K : Act → World → Prop, (∀ a' w'', ((keeps i = true → Cls w0 w'') ∧ wpLate P w0 ops keeps Q l a' w'') → K a' w'') → o.wp P a w' K (NoP Q)) : wpLate P w0 ops keeps Q (i :: l) a w := by
  intro w' hx
  unfold wpOp
  simp only [hi, hw, if_true]
  exact .inl (h w' hx _ fun _ _ h => h)

/-- A late operation that leaves a world of the class. -/
theorem late_keep {Q : Exit → Act → World → Prop} {keeps : Nat → Bool} {i : Nat} {l : List Nat} {a : Act} {w : World} {o : Oper} (hi : ops[i]? = some o) (hw : Region.wanted o (yielded ops a.tmps) = true) (hC : Cls w0 w)
    (h : ∀ w', Ext w w' → Cls w0 w' → ∀ K : Act → World → Prop, (∀ a' w'', Cls w0 w'' → (Cls w0 w'' → wpLate P w0 ops keeps Q l a' w'') → K a' w'') → o.wp P a w' K (NoP Q)) : wpLate P w0 ops keeps Q (i :: l) a w :=
  late_step hi hw fun w' hx K hK => h w' hx (Cls.ext hC hx) K fun a' w'' hc hl => hK a' w'' ⟨fun _ => hc, hl hc⟩
/-- A late operation before which all calm ones must come. -/
theorem late_free {Q : Exit → Act → World → Prop} {keeps : Nat → Bool} {i : Nat} {l : List Nat} {a : Act} {w : World} {o : Oper} (hk : keeps i = false) (hi : ops[i]? = some o) (hw : Region.wanted o (yielded ops a.tmps) = true)
    (h : ∀ w', Ext w w' → ∀ K : Act → World → Prop, (∀ a' w'', wpLate P w0 ops keeps Q l a' w'' → K a' w'') → o.wp P a w' K (NoP Q)) : wpLate P w0 ops keeps Q (i :: l) a w :=
  late_step hi hw fun w' hx K hK => h w' hx K fun a' w'' hl => hK a' w'' ⟨fun e => (by rw [hk] at e; cases e), hl⟩

theorem late_fn {Q : Exit → Act → World → Prop} {keeps : Nat → Bool} {i : Nat} {l : List Nat} {a : Act} {w : World} {o : Oper} {f : FuncId} {fn : Func} {xs : Array Operand} {ts : Array TypeId} {args : Array Value} (hi : ops[i]? = some o) (hw : Region.wanted o (yielded ops a.tmps) = true)
    (hop : o.op = .call { callee := .value (.func f), args := xs, argTypes := ts }) (hf : P.funcs[f]? = some fn) (hn : (fn.name == "runtime.NumGoroutine") = false) (hb : fn.body.isNone = false) (hx : xs.map a.eval = args)
    (h : ∀ w', Ext w w' → ∀ K : Act → World → Prop, (∀ a' w'', ((keeps i = true → Cls w0 w'') ∧ wpLate P w0 ops keeps Q l a' w'') → K a' w'') → Calls P f args w' (fun e w'' => ∃ v, e = .returned v ∧ K (a.put o.dst v) w'')) : wpLate P w0 ops keeps Q (i :: l) a w := by
  refine late_step hi hw fun w' hx' K hK => ?_
  unfold Oper.wp
  rw [run_call_fn w' hop hf hn hb, hx]
  simp only [Oper.upon]
  refine (h w' hx' K hK).mono ?_
  rintro e w'' ⟨v, rfl, hk⟩
  exact hk
end
end Go.Proofs.Yteknlifgejpjfaa.RegD
