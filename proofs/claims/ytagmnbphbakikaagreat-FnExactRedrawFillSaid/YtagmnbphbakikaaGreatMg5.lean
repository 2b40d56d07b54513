/-
  Several texts in one: CurveL, CurveM, RingsL, RingsM.
-/
import Derived.Test.YtagmnbphbakikaaGreatMg1
import Derived.Test.YtagmnbphbakikaaGreatPathL
import Derived.Test.YtagmnbphbakikaaGreatMg8
namespace Go.Proofs.YtagmnbphbakikaaGreat
open Go Go.RowKit Reg

/-- The point between, rounded down. -/
def midP (a b : Pt) : Pt := ((a.1 + b.1) / 2, (a.2 + b.2) / 2)
def midsL : List Pt → List Pt
  | a :: b :: r => midP a b :: midsL (b :: r)
  | _ => []
theorem midsL_len : ∀ (c : List Pt), (midsL c).length = c.length - 1
  | [] => rfl
  | [_] => rfl
  | _ :: b :: r => by rw [midsL, List.length_cons, midsL_len (b :: r)]; simp
theorem midsL_get : ∀ (c : List Pt) (k : Nat) (h : k + 1 < c.length), (midsL c)[k]'(by rw [midsL_len]; omega) = midP c[k] c[k + 1]
  | _ :: _ :: _, 0, _ => rfl
  | _ :: b :: r, k + 1, h => by
    simp only [midsL, List.getElem_cons_succ]
    exact midsL_get (b :: r) k (by simpa using h)
  | [_], k, h => by simp at h
def VpAll (c : List Pt) : Prop := ∀ p ∈ c, vpB p = true
theorem midP_vp {a b : Pt} (ha : vpB a = true) (hb : vpB b = true) : vpB (midP a b) = true := by
  rw [vpB_iff] at *; unfold midP; dsimp only; omega
theorem midsL_vp : ∀ {c : List Pt}, VpAll c → VpAll (midsL c)
  | [], _ => fun p hp => by simp [midsL] at hp
  | [_], _ => fun p hp => by simp [midsL] at hp
  | a :: b :: r, h => fun p hp => by
    rw [midsL] at hp
    rcases List.mem_cons.1 hp with rfl | hp
    · exact midP_vp (h a (by simp)) (h b (by simp))
    · exact midsL_vp (fun q hq => h q (List.mem_cons_of_mem _ hq)) p hp
def splitN : Nat → List Pt → List Pt → List Pt → List Pt × List Pt
  | 0, _, l, r => (l, r)
  | n + 1, now, l, r => if 1 < now.length then splitN n (midsL now) (l ++ [(midsL now).headD (0, 0)]) ((midsL now).getLastD (0, 0) :: r) else (l, r)
/-- Both halves of a curve. -/
def splitL (c : List Pt) : List Pt × List Pt := splitN c.length c [c.headD (0, 0)] [c.getLastD (0, 0)]
theorem splitN_stop {n : Nat} {now l r : List Pt} (h : ¬ 1 < now.length) : splitN n now l r = (l, r) := by
  cases n with
  | zero => rfl
  | succ n => simp [splitN, h]
theorem splitN_step {n : Nat} {now l r : List Pt} (h : 1 < now.length) (hn : now.length ≤ n) : splitN n now l r = splitN n (midsL now) (l ++ [(midsL now).headD (0, 0)]) ((midsL now).getLastD (0, 0) :: r) := by
  have key : ∀ (n m : Nat) (now l r : List Pt), now.length ≤ n → now.length ≤ m → splitN n now l r = splitN m now l r := by
    intro n
    induction n with
    | zero => intro m now l r h1 _; rw [splitN_stop (by omega), splitN_stop (by omega)]
    | succ n ih =>
      intro m now l r h1 h2
      by_cases h : 1 < now.length
      · obtain ⟨m, rfl⟩ : ∃ k, m = k + 1 := ⟨m - 1, by omega⟩
        simp only [splitN, h, if_true]
        exact ih m _ _ _ (by rw [midsL_len]; omega) (by rw [midsL_len]; omega)
      · rw [splitN_stop h, splitN_stop h]
  rw [key n (n + 1) now l r hn (by omega)]
  simp only [splitN, h, if_true]
theorem splitN_len : ∀ (n : Nat) (now l r : List Pt), now.length ≤ n + 1 → (splitN n now l r).1.length = l.length + (now.length - 1) ∧ (splitN n now l r).2.length = r.length + (now.length - 1)
  | 0, now, l, r, h => by simp only [splitN]; omega
  | n + 1, now, l, r, h => by
    by_cases h1 : 1 < now.length
    · simp only [splitN, h1, if_true]
      have := splitN_len n (midsL now) (l ++ [(midsL now).headD (0, 0)]) ((midsL now).getLastD (0, 0) :: r) (by rw [midsL_len]; omega)
      rw [midsL_len] at this
      simp only [List.length_append, List.length_cons, List.length_nil] at this
      omega
    · rw [splitN_stop h1]; dsimp only; omega
theorem splitL_len {c : List Pt} (h : 1 ≤ c.length) : (splitL c).1.length = c.length ∧ (splitL c).2.length = c.length := by
  have := splitN_len c.length c [c.headD (0, 0)] [c.getLastD (0, 0)] (by omega)
  simp only [List.length_cons, List.length_nil] at this
  unfold splitL; omega
theorem headD_mem {c : List Pt} (h : 0 < c.length) : c.headD (0, 0) ∈ c := by cases c with | nil => simp at h | cons a c => simp
theorem headD_at {c : List Pt} (h : 0 < c.length) : c.headD (0, 0) = c[0] := by cases c with | nil => simp at h | cons a c => rfl
theorem lastD_at {c : List Pt} {m : Nat} (hm : m = c.length - 1) (h : m < c.length) : c.getLastD (0, 0) = c[m] := by
  subst hm
  rw [List.getLastD_eq_getLast?, List.getLast?_eq_getElem?, List.getElem?_eq_getElem h]; rfl
theorem lastD_mem {c : List Pt} (h : 0 < c.length) : c.getLastD (0, 0) ∈ c := by rw [lastD_at rfl (by omega)]; exact List.getElem_mem _
theorem splitN_vp : ∀ (n : Nat) (now l r : List Pt), VpAll now → VpAll l → VpAll r → VpAll (splitN n now l r).1 ∧ VpAll (splitN n now l r).2
  | 0, _, _, _, _, hl, hr => ⟨hl, hr⟩
  | n + 1, now, l, r, hn, hl, hr => by
    by_cases h1 : 1 < now.length
    · simp only [splitN, h1, if_true]
      have hm := midsL_vp hn
      have hpos : 0 < (midsL now).length := by rw [midsL_len]; omega
      refine splitN_vp n _ _ _ hm (fun p hp => ?_) (fun p hp => ?_)
      · rcases List.mem_append.1 hp with hp | hp
        · exact hl p hp
        · simp at hp; subst hp; exact hm _ (by have := headD_mem hpos; simpa using this)
      · rcases List.mem_cons.1 hp with rfl | hp
        · exact hm _ (lastD_mem hpos)
        · exact hr p hp
    · rw [splitN_stop h1]; exact ⟨hl, hr⟩
theorem splitL_vp {c : List Pt} (h : VpAll c) (h0 : 0 < c.length) : VpAll (splitL c).1 ∧ VpAll (splitL c).2 :=
  splitN_vp _ _ _ _ h (fun p hp => by simp at hp; subst hp; exact h _ (by have := headD_mem h0; simpa using this)) (fun p hp => by simp at hp; subst hp; exact h _ (by have := lastD_mem h0; simpa using this))
theorem splitN_head : ∀ (n : Nat) (now l r : List Pt), 0 < l.length → (splitN n now l r).1.headD (0, 0) = l.headD (0, 0)
  | 0, _, _, _, _ => rfl
  | n + 1, now, l, r, hl => by
    by_cases h1 : 1 < now.length
    · simp only [splitN, h1, if_true]
      rw [splitN_head n _ _ _ (by simp)]
      cases l with | nil => simp at hl | cons a l => rfl
    · rw [splitN_stop h1]
theorem splitL_head (c : List Pt) : (splitL c).1.headD (0, 0) = c.headD (0, 0) := splitN_head _ _ _ _ (by simp)

/-- How much a curve bends at point i. -/
def absI (n : Int) : Int := if n < 0 then -n else n
def bendAt (c : List Pt) (i : Nat) : Int :=
  let a := c.getD (i - 1) (0, 0); let b := c.getD i (0, 0); let d := c.getD (i + 1) (0, 0)
  max (absI (a.1 - 2 * b.1 + d.1)) (absI (a.2 - 2 * b.2 + d.2))
/-- The greatest bend at points 1 .. k - 1. -/
def bendK (c : List Pt) (k : Nat) : Int := (List.range (k - 1)).foldl (fun m i => max m (bendAt c (i + 1))) 0
def bendL (c : List Pt) : Int := bendK c (c.length - 1)
theorem bendK_one (c : List Pt) : bendK c 1 = 0 := rfl
theorem bendK_succ (c : List Pt) {k : Nat} (h : 1 ≤ k) : bendK c (k + 1) = max (bendK c k) (bendAt c k) := by
  unfold bendK
  obtain ⟨m, rfl⟩ : ∃ m, k = m + 1 := ⟨k - 1, by omega⟩
  rw [Nat.add_sub_cancel, Nat.add_sub_cancel, List.range_succ, List.foldl_append]; rfl
theorem bendK_nn (c : List Pt) (k : Nat) : 0 ≤ bendK c k := by
  unfold bendK
  have : ∀ (l : List Nat) (m : Int), 0 ≤ m → 0 ≤ l.foldl (fun m i => max m (bendAt c (i + 1))) m := by
    intro l
    induction l with
    | nil => intro m h; exact h
    | cons i l ih => intro m h; exact ih _ (by dsimp only; omega)
  exact this _ _ (by omega)
theorem bendAt_at {c : List Pt} {k : Nat} (h1 : 1 ≤ k) (h2 : k + 1 < c.length) : bendAt c k = max (absI (c[k - 1].1 - 2 * c[k].1 + c[k + 1].1)) (absI (c[k - 1].2 - 2 * c[k].2 + c[k + 1].2)) := by
  unfold bendAt
  simp only [List.getD_eq_getElem?_getD, List.getElem?_eq_getElem (show k - 1 < c.length by omega), List.getElem?_eq_getElem (show k < c.length by omega), List.getElem?_eq_getElem h2, Option.getD_some]
theorem bendAt_bd {c : List Pt} (h : VpAll c) (k : Nat) : 0 ≤ bendAt c k ∧ bendAt c k ≤ 4000 := by
  have key : ∀ i, (-1000 ≤ (c.getD i (0, 0)).1 ∧ (c.getD i (0, 0)).1 ≤ 1000) ∧ (-1000 ≤ (c.getD i (0, 0)).2 ∧ (c.getD i (0, 0)).2 ≤ 1000) := by
    intro i
    rw [List.getD_eq_getElem?_getD]
    rcases Nat.lt_or_ge i c.length with hi | hi
    · rw [List.getElem?_eq_getElem hi]; exact vpB_iff.1 (h _ (List.getElem_mem hi))
    · rw [List.getElem?_eq_none hi]; simp
  have a := key (k - 1); have b := key k; have d := key (k + 1)
  unfold bendAt absI
  dsimp only
  omega
theorem bendK_le {c : List Pt} (h : VpAll c) (k : Nat) : bendK c k ≤ 4000 := by
  unfold bendK
  have : ∀ (l : List Nat) (m : Int), m ≤ 4000 → l.foldl (fun m i => max m (bendAt c (i + 1))) m ≤ 4000 := by
    intro l
    induction l with
    | nil => intro m h; exact h
    | cons i l ih => intro m hm; exact ih _ (by have := bendAt_bd h (i + 1); dsimp only; omega)
  exact this _ _ (by omega)
/-- The points of a curve but the first one. -/
def flatL (limit : Int) : Nat → List Pt → List Pt
  | 0, c => [c.getLastD (0, 0)]
  | d + 1, c => if bendL c ≤ limit then [c.getLastD (0, 0)] else flatL limit d (splitL c).1 ++ flatL limit d (splitL c).2
theorem flatL_len (limit : Int) : ∀ (d : Nat) (c : List Pt), 1 ≤ (flatL limit d c).length ∧ (flatL limit d c).length ≤ 2 ^ d
  | 0, c => by simp [flatL]
  | d + 1, c => by
    have h1 := flatL_len limit d (splitL c).1
    have h2 := flatL_len limit d (splitL c).2
    rw [flatL]
    split
    · simp; exact Nat.one_le_two_pow
    · rw [List.length_append, Nat.pow_succ]; omega
theorem flatL_vp (limit : Int) : ∀ (d : Nat) (c : List Pt), VpAll c → 0 < c.length → VpAll (flatL limit d c)
  | 0, c, h, h0 => fun p hp => by simp [flatL] at hp; subst hp; exact h _ (by have := lastD_mem h0; simpa using this)
  | d + 1, c, h, h0 => by
    obtain ⟨v1, v2⟩ := splitL_vp h h0
    obtain ⟨l1, l2⟩ := splitL_len (c := c) h0
    rw [flatL]
    split
    · intro p hp; simp at hp; subst hp; exact h _ (by have := lastD_mem h0; simpa using this)
    · intro p hp
      rcases List.mem_append.1 hp with hp | hp
      · exact flatL_vp limit d _ v1 (by omega) p hp
      · exact flatL_vp limit d _ v2 (by omega) p hp
end Go.Proofs.YtagmnbphbakikaaGreat
namespace Go.Proofs.YtagmnbphbakikaaGreat
open Go Go.RowKit Reg
/-- The state of the division: the points still to be halved, the first points so far, the last points so far. -/
def SplR (c now l m : List Pt) : Prop := if 0 < now.length then splitN c.length now (l ++ [now.headD (0, 0)]) (now.getLastD (0, 0) :: m.reverse) = splitL c else splitL c = (l, m.reverse)
theorem splR_start {c : List Pt} (h : 1 ≤ c.length) : SplR c c [] [] := by
  unfold SplR
  rw [if_pos (by omega)]
  rfl
theorem splR_step {c now l m : List Pt} (h : SplR c now l m) (h1 : 1 ≤ now.length) (hn : now.length ≤ c.length) : SplR c (midsL now) (l ++ [now.headD (0, 0)]) (m ++ [now.getLastD (0, 0)]) := by
  unfold SplR at *
  rw [if_pos (by omega)] at h
  rw [List.reverse_append, List.reverse_singleton, List.singleton_append, midsL_len]
  by_cases h2 : 1 < now.length
  · rw [if_pos (by omega), ← splitN_step h2 hn, h]
  · rw [if_neg (by omega), ← h, splitN_stop h2]
theorem splR_stop {c now l m : List Pt} (h : SplR c now l m) (h1 : ¬ 0 < now.length) : splitL c = (l, m.reverse) := by
  unfold SplR at h
  rwa [if_neg h1] at h
/-- The points on a curve, the first one too. -/
def flatI (limit : Int) (d : Nat) (c : List Pt) : List Pt := c.headD (0, 0) :: flatL limit d c
theorem flatI_len (limit : Int) (d : Nat) (c : List Pt) : (flatI limit d c).length = (flatL limit d c).length + 1 := rfl
theorem flatI_zero (limit : Int) (c : List Pt) : flatI limit 0 c = [c.headD (0, 0), c.getLastD (0, 0)] := rfl
theorem flatI_flat {limit : Int} {d : Nat} {c : List Pt} (h : bendL c ≤ limit) : flatI limit (d + 1) c = [c.headD (0, 0), c.getLastD (0, 0)] := by rw [flatI, flatL, if_pos h]
theorem flatI_bent {limit : Int} {d : Nat} {c : List Pt} (h : ¬ bendL c ≤ limit) : flatI limit (d + 1) c = flatI limit d (splitL c).1 ++ (flatI limit d (splitL c).2).drop 1 := by
  rw [flatI, flatL, if_neg h, flatI, flatI, splitL_head]; rfl
/-- The first k and the last k points have changed places. -/
def revK (r : List Pt) (k : Nat) : List Pt := (List.range r.length).map fun t => if t < k ∨ r.length - 1 - t < k then r.getD (r.length - 1 - t) (0, 0) else r.getD t (0, 0)
theorem revK_len (r : List Pt) (k : Nat) : (revK r k).length = r.length := by simp [revK]
theorem revK_get {r : List Pt} {k t : Nat} (h : t < r.length) : (revK r k)[t]'(by rw [revK_len]; exact h) = if t < k ∨ r.length - 1 - t < k then r.getD (r.length - 1 - t) (0, 0) else r.getD t (0, 0) := by simp [revK]
theorem getD_at {r : List Pt} {t : Nat} (h : t < r.length) : r.getD t (0, 0) = r[t] := by rw [List.getD_eq_getElem?_getD, List.getElem?_eq_getElem h]; rfl
theorem revK_zero (r : List Pt) : revK r 0 = r := by
  refine List.ext_getElem (revK_len r 0) fun t h1 h2 => ?_
  rw [revK_get h2, if_neg (by omega), getD_at h2]
theorem revK_succ {r : List Pt} {k : Nat} (h : 2 * k + 1 < r.length) : ((revK r k).set k ((revK r k)[r.length - 1 - k]'(by rw [revK_len]; omega))).set (r.length - 1 - k) ((revK r k)[k]'(by rw [revK_len]; omega)) = revK r (k + 1) := by
  refine List.ext_getElem (by simp [revK_len]) fun t h1 h2 => ?_
  rw [revK_len] at h2
  rw [List.getElem_set, List.getElem_set, revK_get h2, revK_get (t := k) (by omega), revK_get (t := r.length - 1 - k) (by omega), revK_get h2]
  by_cases e1 : r.length - 1 - k = t
  · rw [if_pos e1, if_neg (by omega), if_pos (by omega)]
    congr 1; omega
  · rw [if_neg e1]
    by_cases e2 : k = t
    · rw [if_pos e2, if_neg (by omega), if_pos (by omega), e2]
    · rw [if_neg e2]
      by_cases e3 : t < k ∨ r.length - 1 - t < k
      · rw [if_pos e3, if_pos (by omega)]
      · rw [if_neg e3, if_neg (by omega)]
theorem revK_all {r : List Pt} {k : Nat} (h : r.length ≤ 2 * k + 1) : revK r k = r.reverse := by
  refine List.ext_getElem (by simp [revK_len]) fun t h1 h2 => ?_
  rw [revK_len] at h1
  rw [revK_get h1, List.getElem_reverse]
  by_cases e : t < k ∨ r.length - 1 - t < k
  · rw [if_pos e, getD_at (by omega)]
  · rw [if_neg e, getD_at h1]
    congr 1; omega
end Go.Proofs.YtagmnbphbakikaaGreat
namespace Go.Proofs.YtagmnbphbakikaaGreat
open Go Go.RowKit Reg
/-- The polygons that are closed, and the one that is not yet. -/
def ringsSt (vs : List Vb) : Nat → List Rg × Rg
  | 0 => ([], [])
  | k + 1 =>
    let s := ringsSt vs k
    let v := vs.getD k (0, [])
    if v.1 = 0 then (if 0 < s.2.length then s.1 ++ [s.2] else s.1, [v.2.headD (0, 0)])
    else if v.1 = 4 then s else (s.1, s.2 ++ flatL 8 3 (s.2.getLastD (0, 0) :: v.2))
def ringsL (vs : List Vb) : List Rg := let s := ringsSt vs vs.length; if 0 < s.2.length then s.1 ++ [s.2] else s.1
/-- What holds of the polygons so far. -/
def StOk (s : List Rg × Rg) (k : Nat) : Prop := VpAll s.2 ∧ (∀ r ∈ s.1, VpAll r ∧ 0 < r.length) ∧ corners s.1 + s.2.length ≤ 8 * k ∧ (0 < k → 0 < s.2.length) ∧ s.1.length ≤ k
theorem vbOk_facts {vs : List Vb} {k : Nat} (h : vbOk vs k = true) (hk : k < vs.length) : (0 ≤ vs[k].1 ∧ vs[k].1 ≤ 4) ∧ vs[k].2.length = manyOf vs[k].1 ∧ psB vs[k].2 = true ∧ (k = 0 → vs[k].1 = 0) := by
  rw [vbOk_at hk] at h
  simp only [Bool.and_eq_true, beq_iff_eq, inB_iff] at h
  refine ⟨h.1.1.1, h.1.1.2, h.1.2, fun h0 => ?_⟩
  subst h0
  simpa [begB_zero] using h.2
theorem psB_all {r : Rg} (h : psB r = true) : VpAll r := by
  intro p hp
  simp only [psB, Bool.and_eq_true, List.all_eq_true] at h
  exact h.1 p hp
theorem ringsSt_move {vs : List Vb} {k : Nat} (hk : k < vs.length) (h : vs[k].1 = 0) (hl : 0 < vs[k].2.length) : ringsSt vs (k + 1) = (if 0 < (ringsSt vs k).2.length then (ringsSt vs k).1 ++ [(ringsSt vs k).2] else (ringsSt vs k).1, [vs[k].2[0]]) := by
  have e : vs.getD k (0, []) = vs[k] := by rw [List.getD_eq_getElem?_getD, List.getElem?_eq_getElem hk]; rfl
  simp only [ringsSt, e, h, if_true]
  rw [headD_at hl]
theorem ringsSt_close {vs : List Vb} {k : Nat} (hk : k < vs.length) (h : vs[k].1 = 4) : ringsSt vs (k + 1) = ringsSt vs k := by
  have e : vs.getD k (0, []) = vs[k] := by rw [List.getD_eq_getElem?_getD, List.getElem?_eq_getElem hk]; rfl
  simp [ringsSt, h, hk]
theorem ringsSt_line {vs : List Vb} {k : Nat} (hk : k < vs.length) (h : vs[k].1 ≠ 0) (h4 : vs[k].1 ≠ 4) : ringsSt vs (k + 1) = ((ringsSt vs k).1, (ringsSt vs k).2 ++ flatL 8 3 ((ringsSt vs k).2.getLastD (0, 0) :: vs[k].2)) := by
  simp [ringsSt, h, h4, hk]
theorem ringsSt_ok {vs : List Vb} : ∀ {k : Nat}, vbsTo vs k → k ≤ vs.length → StOk (ringsSt vs k) k
  | 0, _, _ => ⟨fun p hp => by simp [ringsSt] at hp, fun r hr => by simp [ringsSt] at hr, by simp [ringsSt, corners], fun h => by omega, by simp [ringsSt]⟩
  | k + 1, h, hk => by
    have ih := ringsSt_ok (k := k) (fun i hi => h i (by omega)) (by omega)
    obtain ⟨f1, f2, f3, f4⟩ := vbOk_facts (h k (by omega)) (by omega)
    obtain ⟨i1, i2, i3, i4, i5⟩ := ih
    by_cases h0 : vs[k].1 = 0
    · have hl : vs[k].2.length = 1 := by rw [f2, h0]; rfl
      rw [ringsSt_move (by omega) h0 (by omega)]
      have hp : vpB (vs[k].2[0]'(by omega)) = true := psB_all f3 _ (List.getElem_mem _)
      refine ⟨fun p hp' => by simp at hp'; subst hp'; exact hp, ?_, ?_, fun _ => by simp, ?_⟩
      · split
        · intro r hr
          rcases List.mem_append.1 hr with hr | hr
          · exact i2 r hr
          · simp at hr; subst hr; exact ⟨i1, by assumption⟩
        · exact i2
      · split
        · rw [corners_snoc]; simp; omega
        · simp; omega
      · dsimp only; split
        · simp; omega
        · omega
    · by_cases h4 : vs[k].1 = 4
      · rw [ringsSt_close (by omega) h4]
        exact ⟨i1, i2, by omega, fun _ => i4 (by
          rcases Nat.eq_zero_or_pos k with hk0 | hk0
          · exact absurd (f4 hk0) h0
          · exact hk0), by omega⟩
      · rw [ringsSt_line (by omega) h0 h4]
        have hk0 : 0 < k := by
          rcases Nat.eq_zero_or_pos k with hk0 | hk0
          · exact absurd (f4 hk0) h0
          · exact hk0
        have hn := i4 hk0
        have hv : VpAll ((ringsSt vs k).2.getLastD (0, 0) :: vs[k].2) := by
          intro p hp
          rcases List.mem_cons.1 hp with rfl | hp
          · exact i1 _ (lastD_mem hn)
          · exact psB_all f3 p hp
        have hf := flatL_len 8 3 ((ringsSt vs k).2.getLastD (0, 0) :: vs[k].2)
        refine ⟨fun p hp => ?_, i2, ?_, fun _ => ?_, by dsimp only; omega⟩
        · rcases List.mem_append.1 hp with hp | hp
          · exact i1 p hp
          · exact flatL_vp 8 3 _ hv (by simp) p hp
        · dsimp only; rw [List.length_append]; have : (2 : Nat) ^ 3 = 8 := rfl; omega
        · dsimp only; rw [List.length_append]; omega
theorem pathOk_to {vs : List Vb} (h : pathOk vs = true) : vbsTo vs vs.length ∧ vs.length ≤ 30 := by
  unfold pathOk at h
  simp only [Bool.and_eq_true, List.all_eq_true, List.mem_range, decide_eq_true_eq] at h
  exact ⟨fun i hi => h.1.1 i hi, h.1.2⟩
theorem ringsL_ok {vs : List Vb} (h : pathOk vs = true) : (∀ r ∈ ringsL vs, VpAll r ∧ 0 < r.length) ∧ corners (ringsL vs) ≤ 240 ∧ (ringsL vs).length ≤ 31 := by
  obtain ⟨h1, h2⟩ := pathOk_to h
  obtain ⟨i1, i2, i3, i4, i5⟩ := ringsSt_ok h1 (Nat.le_refl _)
  unfold ringsL
  dsimp only
  split
  · refine ⟨fun r hr => ?_, by rw [corners_snoc]; omega, by simp; omega⟩
    rcases List.mem_append.1 hr with hr | hr
    · exact i2 r hr
    · simp at hr; subst hr; exact ⟨i1, by assumption⟩
  · exact ⟨i2, by omega, by omega⟩
end Go.Proofs.YtagmnbphbakikaaGreat
namespace Go.Proofs.YtagmnbphbakikaaGreat
open Go Go.RowKit Reg
/-- The polygons after k verbs. -/
def ringsIt (vs : List Vb) (k : Nat) : List Rg := if 0 < (ringsSt vs k).2.length then (ringsSt vs k).1 ++ [(ringsSt vs k).2] else (ringsSt vs k).1
theorem ringsIt_zero (vs : List Vb) : ringsIt vs 0 = [] := rfl
theorem ringsIt_all (vs : List Vb) : ringsIt vs vs.length = ringsL vs := rfl
theorem ringsIt_move {vs : List Vb} {k : Nat} (hk : k < vs.length) (h : vs[k].1 = 0) (hl : 0 < vs[k].2.length) : ringsIt vs (k + 1) = ringsIt vs k ++ [[vs[k].2[0]]] := by
  have e := ringsSt_move hk h hl
  unfold ringsIt
  rw [e, if_pos (by simp)]
theorem ringsIt_close {vs : List Vb} {k : Nat} (hk : k < vs.length) (h : vs[k].1 = 4) : ringsIt vs (k + 1) = ringsIt vs k := by
  unfold ringsIt
  rw [ringsSt_close hk h]
theorem ringsIt_line {vs : List Vb} {k : Nat} (hk : k < vs.length) (h : vs[k].1 ≠ 0) (h4 : vs[k].1 ≠ 4) (hto : vbsTo vs k) (hk0 : 0 < k) :
    ∃ done now, ringsIt vs k = done ++ [now] ∧ 0 < now.length ∧ VpAll now ∧ now.length ≤ 8 * k ∧ ringsIt vs (k + 1) = done ++ [now ++ flatL 8 3 (now.getLastD (0, 0) :: vs[k].2)] := by
  obtain ⟨i1, i2, i3, i4, i5⟩ := ringsSt_ok hto (by omega)
  have hf := flatL_len 8 3 ((ringsSt vs k).2.getLastD (0, 0) :: vs[k].2)
  have hn := i4 hk0
  refine ⟨(ringsSt vs k).1, (ringsSt vs k).2, by unfold ringsIt; rw [if_pos hn], hn, i1, ?_, ?_⟩
  · omega
  · unfold ringsIt
    rw [ringsSt_line hk h h4, if_pos (by dsimp only; rw [List.length_append]; omega)]
theorem ringsIt_len {vs : List Vb} {k : Nat} (hto : vbsTo vs k) (hk : k ≤ vs.length) : (ringsIt vs k).length ≤ k + 1 := by
  obtain ⟨i1, i2, i3, i4, i5⟩ := ringsSt_ok hto hk
  unfold ringsIt
  split
  · simp; omega
  · omega
section
variable {w w' : World} {B : Nat} {TP TR : TypeId} {rs : List Rg} {ss : List Value}
/-- One polygon is replaced by another, in a newer row. -/
theorem ORg.put {w1 w2 : World} {g cap i : Nat} {s s' : Value} {r' : Rg} (h : ORg w B TP TR (.slice (some ⟨g, 0, none⟩) rs.length cap) rs ss) (hT : TP ≠ TR) (hi : i < ss.length) (he : ss[i] = s)
    (hg : w.grownBy w1 s.ownBlock) (hx : Ext w1 w2) (hs : Has w2 w1.heap.size TP 2 s' r'.length (r'.flatMap ptC)) : ORg (w2.setCell ⟨g, i, none⟩ s') B TP TR (.slice (some ⟨g, 0, none⟩) rs.length cap) (rs.set i r') (ss.set i s') := by
  subst he
  have hl := h.len
  have hgb := h.out.lt g rfl
  have hn1 := hg.size
  have ho := own_ext (h.out.kept hg (own_ne h.out (h.inn i (by omega)) (Ne.symm hT))) hx
  refine ⟨by simp [hl], by rw [List.length_set]; exact (ho.stored i s').1, fun j hj => ?_, fun j k hj hk hjk => ?_⟩
  · rw [List.length_set] at hj
    by_cases hji : i = j
    · subst hji
      simp only [List.getElem_set_self]
      refine Has.rebase (Has.kept hs (only_set (only_refl w2 _) i s') ?_) (by omega)
      cases hc : s'.ownBlock with
      | none => exact .inl rfl
      | some q => exact .inr fun hh => by injection hh with hh; have := (hs.lt q hc).1; omega
    · simp only [List.getElem_set_ne hji]
      have h1 := own_ext ((h.inn j hj).kept hg (h.nd j i (by omega) hi (Ne.symm hji))) hx
      exact h1.kept (only_set (only_refl w2 _) i s') (own_ne h1 ho hT)
  · rw [List.length_set] at hj hk
    have hold : ∀ (q : Nat) (hq : q < ss.length), ss[q].ownBlock = none ∨ ss[q].ownBlock ≠ s'.ownBlock := fun q hq => by
      cases hc : ss[q].ownBlock with
      | none => exact .inl rfl
      | some b => exact .inr fun hh => by have q1 := (h.old q hq b hc).2; have q2 := (hs.lt b hh.symm).1; omega
    by_cases h1 : i = j
    · subst h1
      rw [List.getElem_set_self, List.getElem_set_ne hjk]
      cases hc : s'.ownBlock with
      | none => exact .inl rfl
      | some b => exact .inr fun hh => by have q1 := (h.old k hk b hh.symm).2; have q2 := (hs.lt b hc).1; omega
    · by_cases h2 : i = k
      · subst h2
        rw [List.getElem_set_self, List.getElem_set_ne (Ne.symm hjk)]
        exact hold j hj
      · rw [List.getElem_set_ne h1, List.getElem_set_ne h2]
        exact h.nd j k hj hk hjk
end
end Go.Proofs.YtagmnbphbakikaaGreat
