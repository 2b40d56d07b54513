/-
  Curves, plainly. Nothing of a program.
-/
import Derived.Test.YteknlifgejpjfaaLib
namespace Go.Proofs.Yteknlifgejpjfaa
open Go Go.RowKit Reg

/-- The point between, rounded down. -/
def midP (a b : Pt) : Pt := ((a.1 + b.1) / 2, (a.2 + b.2) / 2)
def midsL : List Pt → List Pt
  | a :: b :: r => midP a b :: midsL (b :: r)
  | _ => []
theorem midsL_len : ∀ (c : List Pt), (midsL c).length = c.length - 1
  | [] => rfl
  | [_] => rfl
  | _ :: b :: r => by rw [midsL, List.length_cons, midsL_len (b :: r)]; simp
theorem midsL_get : ∀ (c : List Pt) (k : Nat) (h : k + 1 < c.length), (midsL c)[k]'(by rw [midsL_len]; omega) = midP c[k] c[k + 1]
  | _ :: _ :: _, 0, _ => rfl
  | _ :: b :: r, k + 1, h => by
    simp only [midsL, List.getElem_cons_succ]
    exact midsL_get (b :: r) k (by simpa using h)
  | [_], k, h => by simp at h
def VpAll (c : List Pt) : Prop := ∀ p ∈ c, vpB p = true
theorem midP_vp {a b : Pt} (ha : vpB a = true) (hb : vpB b = true) : vpB (midP a b) = true := by
  rw [vpB_iff] at *; unfold midP; dsimp only; omega
theorem midsL_vp : ∀ {c : List Pt}, VpAll c → VpAll (midsL c)
  | [], _ => fun p hp => by simp [midsL] at hp
  | [_], _ => fun p hp => by simp [midsL] at hp
  | a :: b :: r, h => fun p hp => by
    rw [midsL] at hp
    rcases List.mem_cons.1 hp with rfl | hp
    · exact midP_vp (h a (by simp)) (h b (by simp))
    · exact midsL_vp (fun q hq => h q (List.mem_cons_of_mem _ hq)) p hp
def splitN : Nat → List Pt → List Pt → List Pt → List Pt × List Pt
  | 0, _, l, r => (l, r)
  | n + 1, now, l, r => if 1 < now.length then splitN n (midsL now) (l ++ [(midsL now).headD (0, 0)]) ((midsL now).getLastD (0, 0) :: r) else (l, r)
/-- Both halves of a curve. -/
def splitL (c : List Pt) : List Pt × List Pt := splitN c.length c [c.headD (0, 0)] [c.getLastD (0, 0)]
theorem splitN_stop {n : Nat} {now l r : List Pt} (h : ¬ 1 < now.length) : splitN n now l r = (l, r) := by
  cases n with
  | zero => rfl
  | succ n => simp [splitN, h]
theorem splitN_step {n : Nat} {now l r : List Pt} (h : 1 < now.length) (hn : now.length ≤ n) : splitN n now l r = splitN n (midsL now) (l ++ [(midsL now).headD (0, 0)]) ((midsL now).getLastD (0, 0) :: r) := by
  have key : ∀ (n m : Nat) (now l r : List Pt), now.length ≤ n → now.length ≤ m → splitN n now l r = splitN m now l r := by
    intro n
    induction n with
    | zero => intro m now l r h1 _; rw [splitN_stop (by omega), splitN_stop (by omega)]
    | succ n ih =>
      intro m now l r h1 h2
      by_cases h : 1 < now.length
      · obtain ⟨m, rfl⟩ : ∃ k, m = k + 1 := ⟨m - 1, by omega⟩
        simp only [splitN, h, if_true]
        exact ih m _ _ _ (by rw [midsL_len]; omega) (by rw [midsL_len]; omega)
      · rw [splitN_stop h, splitN_stop h]
  rw [key n (n + 1) now l r hn (by omega)]
  simp only [splitN, h, if_true]
theorem splitN_len : ∀ (n : Nat) (now l r : List Pt), now.length ≤ n + 1 → (splitN n now l r).1.length = l.length + (now.length - 1) ∧ (splitN n now l r).2.length = r.length + (now.length - 1)
  | 0, now, l, r, h => by simp only [splitN]; omega
  | n + 1, now, l, r, h => by
    by_cases h1 : 1 < now.length
    · simp only [splitN, h1, if_true]
      have := splitN_len n (midsL now) (l ++ [(midsL now).headD (0, 0)]) ((midsL now).getLastD (0, 0) :: r) (by rw [midsL_len]; omega)
      rw [midsL_len] at this
      simp only [List.length_append, List.length_cons, List.length_nil] at this
      omega
    · rw [splitN_stop h1]; dsimp only; omega
theorem splitL_len {c : List Pt} (h : 1 ≤ c.length) : (splitL c).1.length = c.length ∧ (splitL c).2.length = c.length := by
  have := splitN_len c.length c [c.headD (0, 0)] [c.getLastD (0, 0)] (by omega)
  simp only [List.length_cons, List.length_nil] at this
  unfold splitL; omega
theorem headD_mem {c : List Pt} (h : 0 < c.length) : c.headD (0, 0) ∈ c := by cases c with | nil => simp at h | cons a c => simp
theorem headD_at {c : List Pt} (h : 0 < c.length) : c.headD (0, 0) = c[0] := by cases c with | nil => simp at h | cons a c => rfl
theorem lastD_at {c : List Pt} {m : Nat} (hm : m = c.length - 1) (h : m < c.length) : c.getLastD (0, 0) = c[m] := by
  subst hm
  rw [List.getLastD_eq_getLast?, List.getLast?_eq_getElem?, List.getElem?_eq_getElem h]; rfl
theorem lastD_mem {c : List Pt} (h : 0 < c.length) : c.getLastD (0, 0) ∈ c := by rw [lastD_at rfl (by omega)]; exact List.getElem_mem _
theorem splitN_vp : ∀ (n : Nat) (now l r : List Pt), VpAll now → VpAll l → VpAll r → VpAll (splitN n now l r).1 ∧ VpAll (splitN n now l r).2
  | 0, _, _, _, _, hl, hr => ⟨hl, hr⟩
  | n + 1, now, l, r, hn, hl, hr => by
    by_cases h1 : 1 < now.length
    · simp only [splitN, h1, if_true]
      have hm := midsL_vp hn
      have hpos : 0 < (midsL now).length := by rw [midsL_len]; omega
      refine splitN_vp n _ _ _ hm (fun p hp => ?_) (fun p hp => ?_)
      · rcases List.mem_append.1 hp with hp | hp
        · exact hl p hp
        · simp at hp; subst hp; exact hm _ (by have := headD_mem hpos; simpa using this)
      · rcases List.mem_cons.1 hp with rfl | hp
        · exact hm _ (lastD_mem hpos)
        · exact hr p hp
    · rw [splitN_stop h1]; exact ⟨hl, hr⟩
theorem splitL_vp {c : List Pt} (h : VpAll c) (h0 : 0 < c.length) : VpAll (splitL c).1 ∧ VpAll (splitL c).2 :=
  splitN_vp _ _ _ _ h (fun p hp => by simp at hp; subst hp; exact h _ (by have := headD_mem h0; simpa using this)) (fun p hp => by simp at hp; subst hp; exact h _ (by have := lastD_mem h0; simpa using this))
theorem splitN_head : ∀ (n : Nat) (now l r : List Pt), 0 < l.length → (splitN n now l r).1.headD (0, 0) = l.headD (0, 0)
  | 0, _, _, _, _ => rfl
  | n + 1, now, l, r, hl => by
    by_cases h1 : 1 < now.length
    · simp only [splitN, h1, if_true]
      rw [splitN_head n _ _ _ (by simp)]
      cases l with | nil => simp at hl | cons a l => rfl
    · rw [splitN_stop h1]
theorem splitL_head (c : List Pt) : (splitL c).1.headD (0, 0) = c.headD (0, 0) := splitN_head _ _ _ _ (by simp)

/-- How much a curve bends at point i. -/
def absI (n : Int) : Int := if n < 0 then -n else n
def bendAt (c : List Pt) (i : Nat) : Int :=
  let a := c.getD (i - 1) (0, 0); let b := c.getD i (0, 0); let d := c.getD (i + 1) (0, 0)
  max (absI (a.1 - 2 * b.1 + d.1)) (absI (a.2 - 2 * b.2 + d.2))
/-- The greatest bend at points 1 .. k - 1. -/
def bendK (c : List Pt) (k : Nat) : Int := (List.range (k - 1)).foldl (fun m i => max m (bendAt c (i + 1))) 0
def bendL (c : List Pt) : Int := bendK c (c.length - 1)
theorem bendK_one (c : List Pt) : bendK c 1 = 0 := rfl
theorem bendK_succ (c : List Pt) {k : Nat} (h : 1 ≤ k) : bendK c (k + 1) = max (bendK c k) (bendAt c k) := by
  unfold bendK
  obtain ⟨m, rfl⟩ : ∃ m, k = m + 1 := ⟨k - 1, by omega⟩
  rw [Nat.add_sub_cancel, Nat.add_sub_cancel, List.range_succ, List.foldl_append]; rfl
theorem bendK_nn (c : List Pt) (k : Nat) : 0 ≤ bendK c k := by
  unfold bendK
  have : ∀ (l : List Nat) (m : Int), 0 ≤ m → 0 ≤ l.foldl (fun m i => max m (bendAt c (i + 1))) m := by
    intro l
    induction l with
    | nil => intro m h; exact h
    | cons i l ih => intro m h; exact ih _ (by dsimp only; omega)
  exact this _ _ (by omega)
theorem bendAt_at {c : List Pt} {k : Nat} (h1 : 1 ≤ k) (h2 : k + 1 < c.length) : bendAt c k = max (absI (c[k - 1].1 - 2 * c[k].1 + c[k + 1].1)) (absI (c[k - 1].2 - 2 * c[k].2 + c[k + 1].2)) := by
  unfold bendAt
  simp only [List.getD_eq_getElem?_getD, List.getElem?_eq_getElem (show k - 1 < c.length by omega), List.getElem?_eq_getElem (show k < c.length by omega), List.getElem?_eq_getElem h2, Option.getD_some]
theorem bendAt_bd {c : List Pt} (h : VpAll c) (k : Nat) : 0 ≤ bendAt c k ∧ bendAt c k ≤ 4000 := by
  have key : ∀ i, (-1000 ≤ (c.getD i (0, 0)).1 ∧ (c.getD i (0, 0)).1 ≤ 1000) ∧ (-1000 ≤ (c.getD i (0, 0)).2 ∧ (c.getD i (0, 0)).2 ≤ 1000) := by
    intro i
    rw [List.getD_eq_getElem?_getD]
    rcases Nat.lt_or_ge i c.length with hi | hi
    · rw [List.getElem?_eq_getElem hi]; exact vpB_iff.1 (h _ (List.getElem_mem hi))
    · rw [List.getElem?_eq_none hi]; simp
  have a := key (k - 1); have b := key k; have d := key (k + 1)
  unfold bendAt absI
  dsimp only
  omega
theorem bendK_le {c : List Pt} (h : VpAll c) (k : Nat) : bendK c k ≤ 4000 := by
  unfold bendK
  have : ∀ (l : List Nat) (m : Int), m ≤ 4000 → l.foldl (fun m i => max m (bendAt c (i + 1))) m ≤ 4000 := by
    intro l
    induction l with
    | nil => intro m h; exact h
    | cons i l ih => intro m hm; exact ih _ (by have := bendAt_bd h (i + 1); dsimp only; omega)
  exact this _ _ (by omega)
/-- The points of a curve but the first one. -/
def flatL (limit : Int) : Nat → List Pt → List Pt
  | 0, c => [c.getLastD (0, 0)]
  | d + 1, c => if bendL c ≤ limit then [c.getLastD (0, 0)] else flatL limit d (splitL c).1 ++ flatL limit d (splitL c).2
theorem flatL_len (limit : Int) : ∀ (d : Nat) (c : List Pt), 1 ≤ (flatL limit d c).length ∧ (flatL limit d c).length ≤ 2 ^ d
  | 0, c => by simp [flatL]
  | d + 1, c => by
    have h1 := flatL_len limit d (splitL c).1
    have h2 := flatL_len limit d (splitL c).2
    rw [flatL]
    split
    · simp; exact Nat.one_le_two_pow
    · rw [List.length_append, Nat.pow_succ]; omega
theorem flatL_vp (limit : Int) : ∀ (d : Nat) (c : List Pt), VpAll c → 0 < c.length → VpAll (flatL limit d c)
  | 0, c, h, h0 => fun p hp => by simp [flatL] at hp; subst hp; exact h _ (by have := lastD_mem h0; simpa using this)
  | d + 1, c, h, h0 => by
    obtain ⟨v1, v2⟩ := splitL_vp h h0
    obtain ⟨l1, l2⟩ := splitL_len (c := c) h0
    rw [flatL]
    split
    · intro p hp; simp at hp; subst hp; exact h _ (by have := lastD_mem h0; simpa using this)
    · intro p hp
      rcases List.mem_append.1 hp with hp | hp
      · exact flatL_vp limit d _ v1 (by omega) p hp
      · exact flatL_vp limit d _ v2 (by omega) p hp
end Go.Proofs.Yteknlifgejpjfaa
