/-
  Several texts in one: Rdr, RegionG, RegionQ.
-/
import Derived.Test.YtagmnbphbakikaaGreatMg3
import Derived.Test.YtagmnbphbakikaaGreatMg2
import Derived.Orders
import Derived.Still
import Derived.Below
import Derived.Tactics
import Derived.Tactics2
import Derived.Deep.RegionHeld3
namespace Go.Proofs.YtagmnbphbakikaaGreat
open Go Go.RowKit Reg
attribute [local go_sem] calmAt calmUpon

def byteR : World → Int → List Value → Prop := fun _ n us => us = [.int .u8 n] ∧ 0 ≤ n ∧ n ≤ 255
theorem byteR_stab : Stab byteR := fun _ _ _ _ h _ => h
theorem In.bytes {w : World} {A : Option Addr} {ns : List Int} (h : In byteR 1 w A ns) (hn : 0 < ns.length) : ∃ b off, A = some ⟨b, off, none⟩ ∧ b < w.heap.size ∧
    ∀ (k : Nat) (h : k < ns.length), w.cell? ⟨b, off + k, none⟩ = some (.int .u8 ns[k]) ∧ 0 ≤ ns[k] ∧ ns[k] ≤ 255 := by
  have hlt := h.lt (by omega) hn
  obtain ⟨b, off, hA, hc⟩ := h hn
  refine ⟨b, off, hA, hlt b off hA, fun k hk => ?_⟩
  obtain ⟨us, h1, _, h3⟩ := hc k hk
  obtain ⟨h1, h4, h5⟩ := h1
  subst h1
  have := h3 0 _ rfl
  exact ⟨by simpa using this, h4, h5⟩
end Go.Proofs.YtagmnbphbakikaaGreat
namespace Go.Proofs.YtagmnbphbakikaaGreat.RegG
open Go Go.RowKit
open Reg (Ext Down ancOf ancs waits AccOk ancs_ok ancs_size waits_listed Down.set down_init NoP NoP.imp firstB waits_lt okB listAll calmB lateB keepsOf regionB run_call_fn run_call_clo)

/-- A world and the old blocks that the late operations may write. -/
structure CW where
  w : World
  ok : Nat → Prop
/-- The class of a region that began in c.w. -/
structure Cls (c : CW) (w : World) : Prop where
  size : c.w.heap.size ≤ w.heap.size
  block : ∀ i, i < c.w.heap.size → ¬ c.ok i → w.heap[i]? = c.w.heap[i]?
theorem Cls.refl (c : CW) : Cls c c.w := ⟨Nat.le_refl _, fun _ _ _ => rfl⟩
theorem Cls.ext {c : CW} {a b : World} (h : Cls c a) (k : Ext a b) : Cls c b :=
  ⟨Nat.le_trans h.size k.size, fun i hi hn => (k.block i (Nat.lt_of_lt_of_le hi h.size)).trans (h.block i hi hn)⟩
theorem Cls.grown {c : CW} {a b : World} {g : Nat} (h : Cls c a) (k : a.grownBy b (some g)) (hg : c.ok g) : Cls c b :=
  ⟨Nat.le_trans h.size k.size, fun i hi hn => (k.block i (Nat.lt_of_lt_of_le hi h.size) (by intro hh; injection hh with hh; subst hh; exact hn hg)).trans (h.block i hi hn)⟩
theorem Cls.set {c : CW} {a : World} {p : Addr} (h : Cls c a) (hg : c.ok p.block) (u : Value) : Cls c (a.setCell p u) :=
  ⟨by simpa [World.setCell] using h.size, fun i hi hn => (Below.heap_setCell a p u i (by rintro rfl; exact hn hg)).trans (h.block i hi hn)⟩

section
variable {P : Program} {ops : Array Oper} {w0 : CW}

def calmUpon (P : Program) (w : World) (v : Value) : Result Next → Prop
  | .ok (.value u) w' => w' = w ∧ u = v
  | .ok .skip w' => w' = w ∧ v = undef
  | .ok (.enter f args) w' => w' = w ∧ Calls P f args w (fun e w'' => e = .returned v ∧ Below w.heap.size w w'')
  | _ => False

def calmAt (P : Program) (o : Oper) (a : Act) (w : World) (v : Value) : Prop := calmUpon P w v ((execOp a.eval o).run P w)

/-- One value in every world of the class. -/
def Calm (P : Program) (w0 : CW) (ops : Array Oper) (o : Oper) (v : Value) (a : Act) : Prop :=
  (Region.wanted o (yielded ops a.tmps) = true ∧ ∀ w, Cls w0 w → calmAt P o a w v) ∨
  (Region.wanted o (yielded ops a.tmps) = false ∧ v = undef)

theorem Calm.of_same {o : Oper} {v : Value} {a a' : Act} (hy : Calm P w0 ops o v a) (he : execOp a'.eval o = execOp a.eval o)
    (hw : Region.wanted o (yielded ops a'.tmps) = Region.wanted o (yielded ops a.tmps)) : Calm P w0 ops o v a' := by
  unfold Calm calmAt at *
  rw [he, hw]
  exact hy

/-- Every order, what follows asked behind whatever new blocks come between. 'keeps i': operation i must leave a world of the class. -/
def wpE (P : Program) (w0 : CW) (ops : Array Oper) (keeps : Nat → Bool) (Q : Exit → Act → World → Prop) : Nat → Array Bool → Act → World → Prop
  | 0, listed, a, w => Region.ready .any ops listed = [] ∧ ∀ w', Ext w w' → Q .normal a w'
  | fuel + 1, listed, a, w => ∀ w', Ext w w' →
    (Region.ready .any ops listed = [] → Q .normal a w') ∧
    ∀ i ∈ Region.ready .any ops listed, wpOp P ops (NoP Q) i (fun a' w'' => (keeps i = true → Cls w0 w'') ∧ wpE P w0 ops keeps Q fuel (listed.setIfInBounds i true) a' w'') a w'

theorem wpE_ext {keeps : Nat → Bool} {Q : Exit → Act → World → Prop} : ∀ {fuel : Nat} {listed : Array Bool} {a : Act} {w w' : World},
    wpE P w0 ops keeps Q fuel listed a w → Ext w w' → wpE P w0 ops keeps Q fuel listed a w'
  | 0, _, _, _, _, h, k => ⟨h.1, fun _ k' => h.2 _ (Ext.trans k k')⟩
  | _ + 1, _, _, _, _, h, k => fun _ k' => h _ (Ext.trans k k')

theorem wpOp_noP {Q : Exit → Act → World → Prop} {i : Nat} {K : Act → World → Prop} {a : Act} {w : World} (h : wpOp P ops (NoP Q) i K a w) : wpOp P ops Q i K a w := by
  unfold wpOp at *
  split
  · simpa [*] using h
  · rename_i o ho
    simp only [ho] at h
    split
    · rename_i hw
      simp only [hw, if_true] at h
      rcases h with h | ⟨h, a', w', hq⟩
      · left
        unfold Oper.wp at *
        generalize (execOp a.eval o).run P w = r at *
        cases r with
        | ok n w' =>
          cases n <;> simp only [Oper.upon] at h ⊢ <;> first
            | exact h
            | exact Calls.mono h (fun e w'' he => by cases e <;> first | exact he | exact he.elim | (obtain ⟨a', w3, hq⟩ := he; exact ⟨a', w3, hq⟩))
        | halt x w' => cases x <;> simp only [Oper.upon] at h ⊢ <;> first | exact h | exact h.elim
      · exact .inr ⟨h, a', w', hq⟩
    · rename_i hw; simp only [hw] at h; exact h

theorem wpAny_of_wpE {keeps : Nat → Bool} {Q : Exit → Act → World → Prop} : ∀ (fuel : Nat) (listed : Array Bool) (a : Act) (w : World),
    wpE P w0 ops keeps Q fuel listed a w → wpAny P .any ops Q fuel listed a w
  | 0, _, _, _, h => ⟨h.1, h.2 _ (Ext.refl _)⟩
  | fuel + 1, _, _, w, h => ⟨fun h0 => (h w (Ext.refl _)).1 h0, fun i hi => wpOp_mono (fun a' w' h' => wpAny_of_wpE fuel _ a' w' h'.2) (wpOp_noP ((h w (Ext.refl _)).2 i hi))⟩

theorem Calm.wpOp {Q : Exit → Act → World → Prop} {i : Nat} {o : Oper} {v : Value} {a : Act} {w : World} (hi : ops[i]? = some o) (hy : Calm P w0 ops o v a) (hw : Cls w0 w) {K : Act → World → Prop}
    (h : ∀ w', Ext w w' → K (a.put o.dst v) w') : wpOp P ops Q i K a w := by
  unfold Go.wpOp
  simp only [hi]
  rcases hy with ⟨hwt, hv⟩ | ⟨hwt, rfl⟩
  · simp only [hwt, if_true]
    left
    have h1 := hv w hw
    unfold calmAt at h1
    unfold Oper.wp
    generalize (execOp a.eval o).run P w = r at *
    cases r with
    | ok n w' =>
      cases n <;> simp only [calmUpon, Oper.upon] at h1 ⊢ <;> first
        | exact h1.elim
        | (obtain ⟨rfl, rfl⟩ := h1; exact h _ (Ext.refl _))
        | (obtain ⟨rfl, h2⟩ := h1; exact Calls.mono h2 (fun e w'' he => by obtain ⟨rfl, h3⟩ := he; exact h _ h3))
    | halt x w' => exact h1.elim
  · simp only [hwt, Bool.false_eq_true, if_false]
    exact h _ (Ext.refl _)

/-- An operation apart from a calm one. -/
theorem wpOp_put {Q : Exit → Act → World → Prop} {j : Nat} {oi oj : Oper} {v : Value} (hj : ops[j]? = some oj) (hap : oi.apart ops oj = true)
    (hsi : ∀ cs b, oi.op ≠ .select cs b) (hsj : ∀ cs b, oj.op ≠ .select cs b) {K : Act → World → Prop} {a : Act} {w : World}
    (hy : Calm P w0 ops oi v a) (h : wpOp P ops (NoP Q) j K (a.put oi.dst v) w) :
    wpOp P ops (NoP Q) j (fun a' w' => Calm P w0 ops oi v a' ∧ K (a'.put oi.dst v) w') a w := by
  obtain ⟨h1, h2, h3⟩ := Oper.apart_spec hap
  have keep : ∀ (a : Act), Calm P w0 ops oi v a → ∀ u, Calm P w0 ops oi v (a.put oj.dst u) := fun a hy u =>
    hy.of_same (execOp_put oi hsi a oj.dst u h3) (wanted_put oi a oj.dst u h3)
  have keepD : ∀ d, Calm P w0 ops oi v { a with defers := d :: a.defers } := fun d => hy.of_same rfl rfl
  unfold wpOp at *
  simp only [hj] at *
  rw [wanted_put oj a oi.dst v h1] at h
  split
  · rename_i hw
    simp only [hw, if_true] at h
    rcases h with h | ⟨h, hq⟩
    · left
      unfold Oper.wp at *
      rw [execOp_put oj hsj a oi.dst v h1] at h
      generalize (execOp a.eval oj).run P w = r at *
      cases r with
      | ok n w' =>
        cases n with
        | value u => exact ⟨keep a hy u, by rw [← Act.put_comm a v u h2]; exact h⟩
        | skip => exact ⟨keep a hy _, by rw [← Act.put_comm a v undef h2]; exact h⟩
        | defer d =>
          refine ⟨(keep _ (keepD d) _), ?_⟩
          rw [← Act.put_comm _ v undef h2, ← Act.put_defers]
          exact h
        | enter f args =>
          refine Calls.mono h (fun e w'' he => ?_)
          cases e with
          | returned u => exact ⟨keep a hy u, by rw [← Act.put_comm a v u h2]; exact he⟩
          | panicked c => exact he.elim
          | outgrown => exact he
        | row r args => exact Rows.mono h (fun u w'' he => ⟨keep a hy u, by rw [← Act.put_comm a v u h2]; exact he⟩)
        | _ => exact h.elim
      | halt x w' => cases x <;> exact h.elim
    · refine .inr ⟨?_, hq⟩
      unfold Oper.asks at *
      rwa [execOp_put oj hsj a oi.dst v h1] at h
  · rename_i hw
    simp only [hw] at h
    exact ⟨keep a hy _, by rw [← Act.put_comm a v undef h2]; exact h⟩

/-- **A calm operation that may come up now may be taken first.** -/
theorem wpE_first {keeps : Nat → Bool} {Q : Exit → Act → World → Prop} {i : Nat} {oi : Oper} {v : Value} (hi : ops[i]? = some oi) (hsel : ∀ (j : Nat) (o : Oper) cs b, ops[j]? = some o → o.op ≠ .select cs b)
    (hfree : ∀ j oj, ops[j]? = some oj → j ≠ i → waits ops j i = false → waits ops i j = false → oi.apart ops oj = true ∧ keeps j = true) :
    ∀ (fuel : Nat) (listed : Array Bool) (a : Act) (w : World), Down ops listed → Cls w0 w →
      i ∈ Region.ready .any ops listed → (∀ j, waits ops i j = true → listed.getD j false = true) → Calm P w0 ops oi v a →
      wpE P w0 ops keeps Q fuel (listed.setIfInBounds i true) (a.put oi.dst v) w → wpE P w0 ops keeps Q (fuel + 1) listed a w := by
  intro fuel
  induction fuel with
  | zero =>
    intro listed a w hdn hC hr hanc hy H w' hx
    refine ⟨fun h => (by rw [h] at hr; cases hr), fun j hj => ?_⟩
    by_cases hji : j = i
    · subst hji
      exact hy.wpOp hi (Cls.ext hC hx) (fun w'' hx' => ⟨fun _ => Cls.ext (Cls.ext hC hx) hx', wpE_ext H (Ext.trans hx hx')⟩)
    · have := ready_mono hj hji
      rw [H.1] at this
      cases this
  | succ fuel ih =>
    intro listed a w hdn hC hr hanc hy H w' hx
    refine ⟨fun h => (by rw [h] at hr; cases hr), fun j hj => ?_⟩
    by_cases hji : j = i
    · subst hji
      exact hy.wpOp hi (Cls.ext hC hx) (fun w'' hx' => ⟨fun _ => Cls.ext (Cls.ext hC hx) hx', wpE_ext H (Ext.trans hx hx')⟩)
    · have h1 := (H w' hx).2 j (ready_mono hj hji)
      obtain ⟨hjun, oj, hoj, hall⟩ := mem_ready.1 hj
      have hiun := (mem_ready.1 hr).1
      have hun : ∀ k, listed.getD k true = false → ¬ listed.getD k false = true := fun k h0 h1 => by
        rcases Nat.lt_or_ge k listed.size with h' | h'
        · simp [h'] at h0 h1; rw [h0] at h1; cases h1
        · simp [Array.getElem?_eq_none h'] at h1
      have hnw : waits ops j i = false := by
        cases hwt : waits ops j i with
        | false => rfl
        | true => exact absurd (waits_listed hdn hj hwt) (hun i hiun)
      have hnw' : waits ops i j = false := by
        cases hwt : waits ops i j with
        | false => rfl
        | true => exact absurd (hanc j hwt) (hun j hjun)
      obtain ⟨hap, hkp⟩ := hfree j oj hoj hji hnw hnw'
      have h2 := wpOp_put hoj hap (fun cs b => hsel i oi cs b hi) (fun cs b => hsel j oj cs b hoj) hy h1
      refine wpOp_mono (fun a' w'' h3 => ⟨h3.2.1, ih (listed.setIfInBounds j true) a' w'' (hdn.set hj) (h3.2.1 hkp) (ready_mono hr (Ne.symm hji)) (fun k hk => getD_set_true (hanc k hk)) h3.1 ?_⟩) h2
      rw [Array.setIfInBounds_comm _ _ hji]
      exact h3.2.2

/-! ### the walk -/

theorem wpE_take {keeps : Nat → Bool} {Q : Exit → Act → World → Prop} {i : Nat} {oi : Oper} {v : Value} {fuel : Nat} {listed : Array Bool} {a : Act} {w : World}
    (hok : okB ops = true) (hi : ops[i]? = some oi) (hf : firstB ops keeps listed i = true) (hd : Down ops listed) (hC : Cls w0 w) (hy : Calm P w0 ops oi v a)
    (h : Down ops (listed.setIfInBounds i true) → wpE P w0 ops keeps Q fuel (listed.setIfInBounds i true) (a.put oi.dst v) w) : wpE P w0 ops keeps Q (fuel + 1) listed a w := by
  unfold okB at hok
  simp only [Bool.and_eq_true] at hok
  have hb : ∀ (k : Nat) (o : Oper), ops[k]? = some o → ∀ e ∈ o.after, e.on < ops.size := by
    intro k o ho e he
    have h1 := Array.all_eq_true'.1 hok.2 o (Array.mem_of_getElem? ho)
    have h2 := Array.all_eq_true'.1 h1 e he
    simpa using h2
  simp only [firstB, hi, Bool.and_eq_true, List.all_eq_true, List.mem_range] at hf
  obtain ⟨⟨h1, h2⟩, h3⟩ := hf
  have hr : i ∈ Region.ready .any ops listed := by simpa using h1
  refine wpE_first hi (Region.noSelect_spec hok.1) (fun j oj hoj hne hw1 hw2 => ?_) fuel listed a w hd hC hr (fun j hj => ?_) hy (h (hd.set hr))
  · have := h3 j (Array.getElem?_eq_some_iff.1 hoj).1
    simp only [hoj, hw1, hw2, Bool.or_false, Bool.or_eq_true, beq_iff_eq, hne, false_or, Bool.and_eq_true] at this
    exact this
  · have := h2 j (waits_lt hj hb)
    simpa [hj] using this

/-- A walk over the calm operations, in the order of the list, then the rest. -/
def wpCalm (P : Program) (w0 : CW) (ops : Array Oper) (K : Act → Prop) : List Nat → Act → Prop
  | [], a => K a
  | i :: l, a => match ops[i]? with
    | none => False
    | some o => ∃ v, Calm P w0 ops o v a ∧ wpCalm P w0 ops K l (a.put o.dst v)

theorem wpE_calm {keeps : Nat → Bool} {Q : Exit → Act → World → Prop} (hok : okB ops = true) : ∀ (l : List Nat) (fuel : Nat) (listed : Array Bool) (a : Act) (w : World), Down ops listed → Cls w0 w → calmB ops keeps listed l = true →
    wpCalm P w0 ops (fun a' => wpE P w0 ops keeps Q fuel (listAll listed l) a' w) l a → wpE P w0 ops keeps Q (fuel + l.length) listed a w
  | [], _, _, _, _, _, _, _, h => h
  | i :: l, fuel, listed, a, w, hd, hC, hB, h => by
    simp only [calmB, Bool.and_eq_true] at hB
    simp only [wpCalm] at h
    cases hi : ops[i]? with
    | none => simp only [hi] at h
    | some o =>
      simp only [hi] at h
      obtain ⟨v, hy, hK⟩ := h
      have e : fuel + (i :: l).length = (fuel + l.length) + 1 := by simp [Nat.add_assoc]
      rw [e]
      exact wpE_take hok hi hB.1 hd hC hy fun hd' => wpE_calm hok l fuel _ _ w hd' hC hB.2 hK

/-- The late operations: what they come to, one after the other; new blocks may come between. -/
def wpLate (P : Program) (w0 : CW) (ops : Array Oper) (keeps : Nat → Bool) (Q : Exit → Act → World → Prop) : List Nat → Act → World → Prop
  | [], a, w => ∀ w', Ext w w' → Q .normal a w'
  | i :: l, a, w => ∀ w', Ext w w' → wpOp P ops (NoP Q) i (fun a' w'' => (keeps i = true → Cls w0 w'') ∧ wpLate P w0 ops keeps Q l a' w'') a w'

theorem wpE_late {keeps : Nat → Bool} {Q : Exit → Act → World → Prop} : ∀ (l : List Nat) (listed : Array Bool) (a : Act) (w : World), lateB ops listed l = true → wpLate P w0 ops keeps Q l a w → wpE P w0 ops keeps Q l.length listed a w
  | [], listed, a, w, hB, h => ⟨by simpa [lateB] using hB, h⟩
  | i :: l, listed, a, w, hB, h => fun w' hx => by
    simp only [lateB, Bool.and_eq_true, beq_iff_eq] at hB
    refine ⟨fun h0 => (by rw [hB.1] at h0; cases h0), fun j hj => ?_⟩
    rw [hB.1] at hj
    obtain rfl : j = i := by simpa using hj
    exact wpOp_mono (fun a' w'' h' => ⟨h'.1, wpE_late l _ a' w'' hB.2 h'.2⟩) (h w' hx)

/-- **THE RULE.** -/
theorem wp_region_calm (ok : Nat → Prop) {id : Nat} {Q : Exit → Act → World → Prop} {a : Act} {w : World} {l : List Oper} (calm late : List Nat) (hm : P.follows .mixedOrders = true) (hB : regionB l.toArray calm late = true)
    (h : wpCalm P ⟨w.drew, ok⟩ l.toArray (fun a' => ∀ w', Ext w.drew w' → wpLate P ⟨w.drew, ok⟩ l.toArray (fun j => calm.contains j || keepsOf l.toArray calm j) Q late a' w') calm a) : (Code.region id l.toArray true).wp P Q a w := by
  simp only [regionB, Bool.and_eq_true, beq_iff_eq] at hB
  obtain ⟨⟨⟨h1, h2⟩, h3⟩, h4⟩ := hB
  refine wp_region_any hm ?_
  refine wpAny_of_wpE (w0 := ⟨w.drew, ok⟩) (keeps := fun j => calm.contains j || keepsOf l.toArray calm j) _ _ _ _ ?_
  rw [h2]
  refine wpE_calm h1 calm late.length _ a w.drew (by rw [← h2]; exact down_init _) (Cls.refl _) (by rw [← h2]; exact h3) ?_
  have mono : ∀ (c : List Nat) (a : Act) (K K' : Act → Prop), (∀ a, K a → K' a) → wpCalm P ⟨w.drew, ok⟩ l.toArray K c a → wpCalm P ⟨w.drew, ok⟩ l.toArray K' c a := by
    intro c
    induction c with
    | nil => intro a K K' hk h; exact hk _ h
    | cons i c ih =>
      intro a K K' hk h
      simp only [wpCalm] at h ⊢
      cases hi : l.toArray[i]? with
      | none => simp only [hi] at h
      | some o =>
        simp only [hi] at h ⊢
        obtain ⟨v, hy, hK⟩ := h
        exact ⟨v, hy, ih _ K K' hk hK⟩
  exact mono calm a _ _ (fun a' h' => wpE_late late _ a' w.drew (by rw [← h2]; exact h4) (h' _ (Ext.refl _))) h

/-! ### steps -/
theorem calm_yes {K : Act → Prop} {i : Nat} {l : List Nat} {a : Act} {o : Oper} {v : Value} (hi : ops[i]? = some o) (hw : Region.wanted o (yielded ops a.tmps) = true)
    (hv : ∀ w, Cls w0 w → calmAt P o a w v) (h : ∀ K' : Act → Prop, (∀ a, wpCalm P w0 ops K l a → K' a) → K' (a.put o.dst v)) : wpCalm P w0 ops K (i :: l) a := by
  simp only [wpCalm, hi]
  exact ⟨v, .inl ⟨hw, hv⟩, h _ fun _ h => h⟩
theorem calm_no {K : Act → Prop} {i : Nat} {l : List Nat} {a : Act} {o : Oper} (hi : ops[i]? = some o) (hw : Region.wanted o (yielded ops a.tmps) = false)
    (h : ∀ K' : Act → Prop, (∀ a, wpCalm P w0 ops K l a → K' a) → K' (a.put o.dst undef)) : wpCalm P w0 ops K (i :: l) a := by
  simp only [wpCalm, hi]
  exact ⟨undef, .inr ⟨hw, rfl⟩, h _ fun _ h => h⟩
theorem calm_call {K : Act → Prop} {i : Nat} {l : List Nat} {a : Act} {o : Oper} {v : Value} {f : FuncId} {fn : Func} {xs : Array Operand} {ts : Array TypeId} {args : Array Value}
    (hi : ops[i]? = some o) (hw : Region.wanted o (yielded ops a.tmps) = true) (hop : o.op = .call { callee := .value (.func f), args := xs, argTypes := ts })
    (hf : P.funcs[f]? = some fn) (hn : (fn.name == "runtime.NumGoroutine") = false) (hb : fn.body.isNone = false) (hx : xs.map a.eval = args)
    (hc : ∀ w, Cls w0 w → Calls P f args w (fun e w'' => e = .returned v ∧ Below w.heap.size w w''))
    (h : ∀ K' : Act → Prop, (∀ a, wpCalm P w0 ops K l a → K' a) → K' (a.put o.dst v)) : wpCalm P w0 ops K (i :: l) a :=
  calm_yes hi hw (fun w hC => by unfold calmAt; rw [run_call_fn w hop hf hn hb, hx]; exact ⟨rfl, hc w hC⟩) h
theorem calm_clo {K : Act → Prop} {i : Nat} {l : List Nat} {a : Act} {o : Oper} {v : Value} {f : FuncId} {fn : Func} {x : Operand} {first capt : Array Value} {xs : Array Operand} {ts : Array TypeId} {args : Array Value}
    (hi : ops[i]? = some o) (hw : Region.wanted o (yielded ops a.tmps) = true) (hop : o.op = .call { callee := .value x, args := xs, argTypes := ts }) (hv : a.eval x = .func (.func f) first capt)
    (hf : P.funcs[f]? = some fn) (hn : (fn.name == "runtime.NumGoroutine") = false) (hb : fn.body.isNone = false) (hx : first ++ xs.map a.eval ++ capt = args)
    (hc : ∀ w, Cls w0 w → Calls P f args w (fun e w'' => e = .returned v ∧ Below w.heap.size w w''))
    (h : ∀ K' : Act → Prop, (∀ a, wpCalm P w0 ops K l a → K' a) → K' (a.put o.dst v)) : wpCalm P w0 ops K (i :: l) a :=
  calm_yes hi hw (fun w hC => by unfold calmAt; rw [run_call_clo w hop hv hf hn hb, hx]; exact ⟨rfl, hc w hC⟩) h
theorem calm_done {Q : Exit → Act → World → Prop} {keeps : Nat → Bool} {ok : Nat → Prop} {w : World} {a : Act} (h : ∀ w', Ext w w' → Q .normal a w') :
    wpCalm P ⟨w.drew, ok⟩ ops (fun a' => ∀ w', Ext w.drew w' → wpLate P ⟨w.drew, ok⟩ ops keeps Q [] a' w') [] a := fun _ hC _ hx => h _ (Below.trans (Below.refl _ w).drew (Ext.trans hC hx))
theorem calm_nil {K : Act → Prop} {a : Act} (h : K a) : wpCalm P w0 ops K [] a := h
/-- A cell of another block of the region's first world is in every world of the class. -/
theorem Cls.cell {c : CW} {w : World} (h : Cls c w) {p : Addr} {v : Value} (hc : c.w.cell? p = some v) (hne : ¬ c.ok p.block) : w.cell? p = some v := by
  have hlt : p.block < c.w.heap.size := by
    unfold World.cell? at hc
    rcases Nat.lt_or_ge p.block c.w.heap.size with h | h
    · exact h
    · rw [Array.getElem?_eq_none h] at hc; cases hc
  unfold World.cell? at hc ⊢
  rw [h.block p.block hlt hne]; exact hc
theorem late_nil {Q : Exit → Act → World → Prop} {keeps : Nat → Bool} {a : Act} {w : World} (h : ∀ w', Ext w w' → Q .normal a w') : wpLate P w0 ops keeps Q [] a w := h
theorem late_step {Q : Exit → Act → World → Prop} {keeps : Nat → Bool} {i : Nat} {l : List Nat} {a : Act} {w : World} {o : Oper} (hi : ops[i]? = some o) (hw : Region.wanted o (yielded ops a.tmps) = true)
    (h : ∀ w', Ext w w' → ∀ K : Act → World → Prop, (∀ a' w'', ((keeps i = true → Cls w0 w'') ∧ wpLate P w0 ops keeps Q l a' w'') → K a' w'') → o.wp P a w' K (NoP Q)) : wpLate P w0 ops keeps Q (i :: l) a w := by
  intro w' hx
  unfold wpOp
  simp only [hi, hw, if_true]
  exact .inl (h w' hx _ fun _ _ h => h)

/-- A late operation that leaves a world of the class. -/
theorem late_keep {Q : Exit → Act → World → Prop} {keeps : Nat → Bool} {i : Nat} {l : List Nat} {a : Act} {w : World} {o : Oper} (hi : ops[i]? = some o) (hw : Region.wanted o (yielded ops a.tmps) = true) (hC : Cls w0 w)
    (h : ∀ w', Ext w w' → Cls w0 w' → ∀ K : Act → World → Prop, (∀ a' w'', Cls w0 w'' → (Cls w0 w'' → wpLate P w0 ops keeps Q l a' w'') → K a' w'') → o.wp P a w' K (NoP Q)) : wpLate P w0 ops keeps Q (i :: l) a w :=
  late_step hi hw fun w' hx K hK => h w' hx (Cls.ext hC hx) K fun a' w'' hc hl => hK a' w'' ⟨fun _ => hc, hl hc⟩
/-- A late operation before which all calm ones must come. -/
theorem late_free {Q : Exit → Act → World → Prop} {keeps : Nat → Bool} {i : Nat} {l : List Nat} {a : Act} {w : World} {o : Oper} (hk : keeps i = false) (hi : ops[i]? = some o) (hw : Region.wanted o (yielded ops a.tmps) = true)
    (h : ∀ w', Ext w w' → ∀ K : Act → World → Prop, (∀ a' w'', wpLate P w0 ops keeps Q l a' w'' → K a' w'') → o.wp P a w' K (NoP Q)) : wpLate P w0 ops keeps Q (i :: l) a w :=
  late_step hi hw fun w' hx K hK => h w' hx K fun a' w'' hl => hK a' w'' ⟨fun e => (by rw [hk] at e; cases e), hl⟩

end
end Go.Proofs.YtagmnbphbakikaaGreat.RegG
namespace Go.Proofs.YtagmnbphbakikaaGreat.RegG
open Go Go.RowKit
open Reg (Ext Down NoP okB listAll calmB lateB keepsOf firstB down_init)
section
variable {P : Program} {ops : Array Oper} {w0 : CW}
def keepsR (ops : Array Oper) (calm : List Nat) (j : Nat) : Bool := calm.contains j || keepsOf ops calm j
def regionO (ops : Array Oper) (calm : List Nat) (n : Nat) : Bool :=
  okB ops && (ops.size == n + calm.length) && calmB ops (keepsR ops calm) (Array.replicate ops.size false) calm
theorem wp_region_open (ok : Nat → Prop) {id : Nat} {Q : Exit → Act → World → Prop} {a : Act} {w : World} {l : List Oper} (calm : List Nat) (n : Nat) (hm : P.follows .mixedOrders = true) (hB : regionO l.toArray calm n = true)
    (h : wpCalm P ⟨w.drew, ok⟩ l.toArray (fun a' => wpE P ⟨w.drew, ok⟩ l.toArray (keepsR l.toArray calm) Q n (listAll (Array.replicate l.toArray.size false) calm) a' w.drew) calm a) : (Code.region id l.toArray true).wp P Q a w := by
  simp only [regionO, Bool.and_eq_true, beq_iff_eq] at hB
  obtain ⟨⟨h1, h2⟩, h3⟩ := hB
  refine wp_region_any hm ?_
  refine wpAny_of_wpE (w0 := ⟨w.drew, ok⟩) (keeps := keepsR l.toArray calm) _ _ _ _ ?_
  rw [h2] at h ⊢
  exact wpE_calm h1 calm n _ a w.drew (by rw [← h2]; exact down_init _) (Cls.refl _) (by rw [← h2]; exact h3) h
/-- One of the operations that may come up. -/
def StepE (P : Program) (w0 : CW) (ops : Array Oper) (keeps : Nat → Bool) (Q : Exit → Act → World → Prop) (fuel : Nat) (listed : Array Bool) (a : Act) (w : World) (i : Nat) : Prop :=
  ∀ w', Ext w w' → wpOp P ops (NoP Q) i (fun a' w'' => (keeps i = true → Cls w0 w'') ∧ wpE P w0 ops keeps Q fuel (listed.setIfInBounds i true) a' w'') a w'
theorem opE_one {keeps : Nat → Bool} {Q : Exit → Act → World → Prop} {fuel : Nat} {listed : Array Bool} {a : Act} {w : World} (i : Nat) (hr : Region.ready .any ops listed = [i])
    (h : StepE P w0 ops keeps Q fuel listed a w i) : wpE P w0 ops keeps Q (fuel + 1) listed a w := fun w' hx => ⟨fun h0 => (by rw [h0] at hr; cases hr), fun j hj => by
  rw [hr] at hj
  obtain rfl : j = i := by simpa using hj
  exact h w' hx⟩
theorem opE_two {keeps : Nat → Bool} {Q : Exit → Act → World → Prop} {fuel : Nat} {listed : Array Bool} {a : Act} {w : World} (i j : Nat) (hr : Region.ready .any ops listed = [i, j])
    (h1 : StepE P w0 ops keeps Q fuel listed a w i) (h2 : StepE P w0 ops keeps Q fuel listed a w j) : wpE P w0 ops keeps Q (fuel + 1) listed a w := fun w' hx => ⟨fun h0 => (by rw [h0] at hr; cases hr), fun k hk => by
  rw [hr] at hk
  simp only [List.mem_cons, List.not_mem_nil, or_false] at hk
  rcases hk with rfl | rfl
  · exact h1 w' hx
  · exact h2 w' hx⟩
theorem stepE_keep {keeps : Nat → Bool} {Q : Exit → Act → World → Prop} {fuel : Nat} {listed : Array Bool} {i : Nat} {a : Act} {w : World} {o : Oper} (hi : ops[i]? = some o) (hw : Region.wanted o (yielded ops a.tmps) = true) (hC : Cls w0 w)
    (h : ∀ w', Ext w w' → Cls w0 w' → ∀ K : Act → World → Prop, (∀ a' w'', Cls w0 w'' → (Cls w0 w'' → wpE P w0 ops keeps Q fuel (listed.setIfInBounds i true) a' w'') → K a' w'') → o.wp P a w' K (NoP Q)) : StepE P w0 ops keeps Q fuel listed a w i := by
  intro w' hx
  unfold wpOp
  simp only [hi, hw, if_true]
  exact .inl (h w' hx (Cls.ext hC hx) _ fun a' w'' hc hl => ⟨fun _ => hc, hl hc⟩)
end
end Go.Proofs.YtagmnbphbakikaaGreat.RegG
