/-
  Crossings of a row in order, and the parts of a row that are inside: plainly. Nothing of a program.
-/
import Derived.Test.YteknlifgejpjfaaWindL
import Derived.Test.YteknlifgejpjfaaCover
namespace Go.Proofs.Yteknlifgejpjfaa
open Go Go.RowKit Reg
/-! ### in order -/
def leC (a b : Pt) : Bool := decide (a.1 < b.1) || (decide (a.1 = b.1) && decide (a.2 ≤ b.2))
def befB (a b : Pt) : Bool := decide (a.1 < b.1) || (decide (a.1 = b.1) && decide (a.2 < b.2))
theorem leC_iff {a b : Pt} : leC a b = true ↔ a.1 < b.1 ∨ (a.1 = b.1 ∧ a.2 ≤ b.2) := by simp [leC]
theorem befB_iff {a b : Pt} : befB a b = true ↔ a.1 < b.1 ∨ (a.1 = b.1 ∧ a.2 < b.2) := by simp [befB]
theorem befB_no {a b : Pt} : befB a b = false ↔ leC b a = true := by
  rw [leC_iff, Bool.eq_false_iff, ne_eq, befB_iff]; omega
theorem leC_tr (a b c : Pt) (h1 : leC a b = true) (h2 : leC b c = true) : leC a c = true := by
  rw [leC_iff] at *; omega
theorem leC_tot (a b : Pt) : (leC a b || leC b a) = true := by
  rw [Bool.or_eq_true, leC_iff, leC_iff]; omega
def SrtC (l : List Pt) : Prop := l.Pairwise fun a b => leC a b = true
def srtC (l : List Pt) : List Pt := l.mergeSort leC
theorem srtC_srt (l : List Pt) : SrtC (srtC l) := List.pairwise_mergeSort leC_tr leC_tot l
theorem srtC_perm (l : List Pt) : (srtC l).Perm l := List.mergeSort_perm l leC
/-- What is in order and has the same elements is the same. -/
theorem srtC_eq {l qs : List Pt} (h1 : SrtC qs) (h2 : qs.Perm l) : qs = srtC l := by
  refine List.Perm.eq_of_pairwise (le := fun a b => leC a b = true) (fun a b _ _ k1 k2 => ?_) h1 (srtC_srt l) (h2.trans (srtC_perm l).symm)
  rw [leC_iff] at k1 k2
  obtain ⟨a1, a2⟩ := a
  obtain ⟨b1, b2⟩ := b
  simp only [Prod.mk.injEq]
  dsimp only at k1 k2
  omega
/-- One put in its place from behind. -/
theorem place_srt {l : List Pt} {c : Pt} {k : Nat} (h : SrtC l) (hb : ∀ x ∈ l.drop k, befB c x = true) (ha : k = 0 ∨ ∃ hk : k - 1 < l.length, befB c l[k - 1] = false) : SrtC (l.take k ++ c :: l.drop k) := by
  have h' : SrtC (l.take k ++ l.drop k) := by rw [List.take_append_drop]; exact h
  unfold SrtC at *
  rw [List.pairwise_append] at h' ⊢
  obtain ⟨p1, p2, p3⟩ := h'
  have hle : ∀ x ∈ l.take k, leC x c = true := by
    intro x hx
    rcases ha with rfl | ⟨hk, ha⟩
    · simp at hx
    · rw [befB_no] at ha
      obtain ⟨i, hi, rfl⟩ := List.getElem_of_mem hx
      have hi2 : i < k ∧ i < l.length := by rw [List.length_take] at hi; omega
      rw [List.getElem_take]
      by_cases e : i = k - 1
      · subst e; exact ha
      · exact leC_tr _ _ _ (List.pairwise_iff_getElem.1 h i (k - 1) hi2.2 hk (by omega)) ha
  refine ⟨p1, List.pairwise_cons.2 ⟨fun x hx => ?_, p2⟩, fun a ha' b hb' => ?_⟩
  · have := hb x hx
    rw [befB_iff] at this
    rw [leC_iff]; omega
  · rcases List.mem_cons.1 hb' with rfl | hb'
    · exact hle a ha'
    · exact p3 a ha' b hb'
theorem place_perm (l : List Pt) (c : Pt) (k : Nat) : (l.take k ++ c :: l.drop k).Perm (c :: l) := by
  refine List.perm_middle.trans ?_
  rw [List.take_append_drop]
/-! ### crossings -/
def dirE (y : Int) (a b : Pt) : Int := if a.2 ≤ y ∧ y < b.2 then 1 else if b.2 ≤ y ∧ y < a.2 then -1 else 0
/-- The first sample that is not to the left. -/
def frst (y : Int) (a b : Pt) : Nat := ((List.range 48).find? fun (n : Nat) => decide (stepL (4 * (n : Int) + 2) y a b ≠ 0)).getD 48
theorem frst_eq {y : Int} {a b : Pt} {n : Nat} (hn : n ≤ 48) (h : ∀ j, j < n → stepL (4 * (j : Int) + 2) y a b = 0) (h2 : n = 48 ∨ stepL (4 * (n : Int) + 2) y a b ≠ 0) : frst y a b = n := by
  unfold frst
  by_cases e : n = 48
  · subst e
    have : (List.range 48).find? (fun (n : Nat) => decide (stepL (4 * (n : Int) + 2) y a b ≠ 0)) = none := by
      rw [List.find?_eq_none]
      intro x hx
      have := h x (List.mem_range.1 hx)
      simp [this]
    rw [this]; rfl
  · have h3 : stepL (4 * (n : Int) + 2) y a b ≠ 0 := by omega
    have : (List.range 48).find? (fun (n : Nat) => decide (stepL (4 * (n : Int) + 2) y a b ≠ 0)) = some n := by
      rw [List.find?_range_eq_some]
      refine ⟨by simpa using h3, List.mem_range.2 (by omega), fun j hj => ?_⟩
      have := h j hj
      simp [this]
    rw [this]; rfl
def crsE (y : Int) (a b : Pt) : List Pt := if dirE y a b = 0 then [] else [((frst y a b : Nat), dirE y a b)]
def crsL (es : List Ed) (y : Int) : List Pt := es.flatMap fun e => crsE y e.1 e.2
theorem crsE_len (y : Int) (a b : Pt) : (crsE y a b).length ≤ 1 := by unfold crsE; split <;> simp
theorem crsL_len (es : List Ed) (y : Int) : (crsL es y).length ≤ es.length := by
  induction es with
  | nil => simp [crsL]
  | cons e es ih =>
    have := crsE_len y e.1 e.2
    have e1 : crsL (e :: es) y = crsE y e.1 e.2 ++ crsL es y := rfl
    rw [e1, List.length_append, List.length_cons]; omega
theorem frst_le (y : Int) (a b : Pt) : frst y a b ≤ 48 := by
  unfold frst
  cases h : (List.range 48).find? (fun (n : Nat) => decide (stepL (4 * (n : Int) + 2) y a b ≠ 0)) with
  | none => exact Nat.le_refl _
  | some n =>
    have := List.mem_of_find?_eq_some h
    have := List.mem_range.1 this
    show n ≤ 48
    omega
theorem crsL_bd {es : List Ed} {y : Int} {c : Pt} (h : c ∈ crsL es y) : (0 ≤ c.1 ∧ c.1 ≤ 48) ∧ (-1 ≤ c.2 ∧ c.2 ≤ 1) := by
  obtain ⟨e, _, he⟩ := List.mem_flatMap.1 h
  unfold crsE at he
  split at he
  · simp at he
  · simp at he
    subst he
    have := frst_le y e.1 e.2
    dsimp only
    refine ⟨by omega, ?_⟩
    unfold dirE
    split
    · omega
    · split <;> omega
/-- The crossings of a row, in order. -/
def crossL' (rs : List Rg) (row : Int) : List Pt := srtC (crsL (edgesS rs) (4 * row + 2))
/-! ### parts -/
def preK (cs : List Pt) (t : Nat) : Nat := (cs.takeWhile fun c => decide (c.1 < (t : Int))).length
def stpK (cs : List Pt) (i : Nat) : Int := sumI ((cs.take i).map fun c => c.2)
theorem stpK_succ {cs : List Pt} {i : Nat} (h : i < cs.length) : stpK cs (i + 1) = stpK cs i + cs[i].2 := by
  unfold stpK
  rw [List.take_succ_eq_append_getElem h, List.map_append, sumI_append]
  simp [sumI]
theorem preK_le (cs : List Pt) (t : Nat) : preK cs t ≤ cs.length := (List.takeWhile_prefix _).length_le
theorem preK_lt : ∀ {cs : List Pt} {t j : Nat} (_ : j < preK cs t) (hj : j < cs.length), cs[j].1 < (t : Int)
  | [], _, _, _, hj => by simp at hj
  | c :: cs, t, j, h, hj => by
    unfold preK at h
    rw [List.takeWhile_cons] at h
    split at h
    · rename_i hc
      cases j with
      | zero => simpa using hc
      | succ j =>
        simp only [List.length_cons] at h hj
        exact preK_lt (cs := cs) (t := t) (j := j) (by unfold preK; omega) (by omega)
    · simp at h
theorem preK_ge : ∀ {cs : List Pt} {t : Nat} (h : preK cs t < cs.length), ¬ (cs[preK cs t]'h).1 < (t : Int)
  | [], _, h => by simp [preK] at h
  | c :: cs, t, h => by
    by_cases hc : c.1 < (t : Int)
    · have e : preK (c :: cs) t = preK cs t + 1 := by unfold preK; rw [List.takeWhile_cons]; simp [hc]
      have h2 : preK cs t < cs.length := by rw [e] at h; simpa using h
      have h3 := preK_ge h2
      simp only [e, List.getElem_cons_succ]
      exact h3
    · have e : preK (c :: cs) t = 0 := by unfold preK; rw [List.takeWhile_cons]; simp [hc]
      simp only [e, List.getElem_cons_zero]
      exact hc
theorem preK_eq {cs : List Pt} {t i : Nat} (hi : i ≤ cs.length) (h1 : ∀ (j : Nat) (hj : j < cs.length), j < i → cs[j].1 < (t : Int)) (h2 : ∀ h : i < cs.length, ¬ cs[i].1 < (t : Int)) : preK cs t = i := by
  rcases Nat.lt_trichotomy (preK cs t) i with h | h | h
  · exact absurd (h1 _ (by omega) h) (preK_ge (by omega))
  · exact h
  · have := preK_le cs t
    exact absurd (preK_lt h (by omega)) (h2 (by omega))
/-- One more part of one sample, or the last part longer. -/
def addR (out : List Pt) (t : Nat) : List Pt := match out.getLast? with
  | some l => if l.2 = (t : Int) then out.dropLast ++ [(l.1, (t : Int) + 1)] else out ++ [((t : Int), (t : Int) + 1)]
  | none => [((t : Int), (t : Int) + 1)]
/-- The parts among the first t samples: as the program finds them. -/
def runsI (cs : List Pt) (rule : Int) : Nat → List Pt
  | 0 => []
  | t + 1 => if insB (stpK cs (preK cs (t + 1))) rule then addR (runsI cs rule t) t else runsI cs rule t
/-- Is it the last of its place? -/
def lstB (cs : List Pt) (i : Nat) : Bool := decide (i + 1 = cs.length) || decide ((cs.getD i (0, 0)).1 < (cs.getD (i + 1) (0, 0)).1)
/-- The parts, the sum and the beginning of the open part behind i crossings: as the reference finds them. -/
def runsS (cs : List Pt) (rule : Int) : Nat → List Pt × Int × Int
  | 0 => ([], 0, -1)
  | i + 1 =>
    let s := runsS cs rule i
    let n := s.2.1 + (cs.getD i (0, 0)).2
    if lstB cs i && (decide (s.2.2 < 0) && (insB n rule && decide ((cs.getD i (0, 0)).1 < 48))) then (s.1, n, (cs.getD i (0, 0)).1)
    else if lstB cs i && (decide (0 ≤ s.2.2) && !insB n rule) then (s.1 ++ [(s.2.2, (cs.getD i (0, 0)).1)], n, -1)
    else (s.1, n, s.2.2)
def runsE (cs : List Pt) (rule : Int) : List Pt := let s := runsS cs rule cs.length; if 0 ≤ s.2.2 then s.1 ++ [(s.2.2, 48)] else s.1
theorem insB_zero (rule : Int) : insB 0 rule = false := by unfold insB; split <;> simp
theorem runsS_n (cs : List Pt) (rule : Int) : ∀ i, i ≤ cs.length → (runsS cs rule i).2.1 = stpK cs i
  | 0, _ => by simp [runsS, stpK, sumI]
  | i + 1, h => by
    have ih := runsS_n cs rule i (by omega)
    rw [stpK_succ (show i < cs.length by omega)]
    have e : cs.getD i (0, 0) = cs[i] := by rw [List.getD_eq_getElem?_getD, List.getElem?_eq_getElem (by omega)]; rfl
    simp only [runsS, e, ih]
    split
    · rfl
    · split <;> rfl
theorem runsS_mid {cs : List Pt} {rule : Int} {i : Nat} (h : lstB cs i = false) : (runsS cs rule (i + 1)).1 = (runsS cs rule i).1 ∧ (runsS cs rule (i + 1)).2.2 = (runsS cs rule i).2.2 := by
  simp [runsS, h]
theorem addR_new {out : List Pt} {t : Nat} (h : ∀ p ∈ out, p.2 < (t : Int)) : addR out t = out ++ [((t : Int), (t : Int) + 1)] := by
  unfold addR
  cases e : out.getLast? with
  | none =>
    have : out = [] := List.getLast?_eq_none_iff.1 e
    subst this; rfl
  | some l =>
    have := h l (List.mem_of_getLast? e)
    simp only
    rw [if_neg (by omega)]
theorem addR_more (out : List Pt) (f : Int) (t : Nat) : addR (out ++ [(f, (t : Int))]) t = out ++ [(f, (t : Int) + 1)] := by
  unfold addR
  rw [List.getLast?_concat]
  simp
section
variable {cs : List Pt} {rule : Int}
theorem srt_get (hs : SrtC cs) {i j : Nat} (hij : i ≤ j) (hj : j < cs.length) : (cs[i]'(by omega)).1 ≤ cs[j].1 := by
  rcases Nat.lt_or_ge i j with h | h
  · have := List.pairwise_iff_getElem.1 hs i j (by omega) hj h
    rw [leC_iff] at this; omega
  · obtain rfl : i = j := by omega
    omega
theorem getD_cs {i : Nat} (h : i < cs.length) : cs.getD i (0, 0) = cs[i] := by rw [List.getD_eq_getElem?_getD, List.getElem?_eq_getElem h]; rfl
/-- Within crossings of one place nothing happens. -/
theorem runsS_same (hs : SrtC cs) {v : Int} {i : Nat} : ∀ {d : Nat}, (∀ (j : Nat) (hj : j < cs.length), i ≤ j → j < i + d → cs[j].1 = v) → (∀ h : i + d < cs.length, cs[i + d].1 = v) → i + d < cs.length ∨ d = 0 →
    (runsS cs rule (i + d)).1 = (runsS cs rule i).1 ∧ (runsS cs rule (i + d)).2.2 = (runsS cs rule i).2.2
  | 0, _, _, _ => ⟨rfl, rfl⟩
  | d + 1, h1, h2, h3 => by
    have h4 : i + (d + 1) < cs.length := by omega
    have ih := runsS_same (d := d) hs (fun j hj k1 k2 => h1 j hj k1 (by omega)) (fun h => h1 (i + d) h (by omega) (by omega)) (by omega)
    have hl : lstB cs (i + d) = false := by
      unfold lstB
      have a := h1 (i + d) (by omega) (by omega) (by omega)
      have b := h2 h4
      rw [getD_cs (show i + d < cs.length by omega), getD_cs (show i + d + 1 < cs.length by omega)]
      have b' : (cs[i + d + 1]'(by omega)).1 = v := b
      simp only [a, b']
      simp
      omega
    have := runsS_mid (rule := rule) hl
    rw [show i + (d + 1) = i + d + 1 by omega, this.1, this.2]
    exact ih
/-- Behind the crossings before sample t. -/
theorem runs_at (hs : SrtC cs) (h0 : ∀ c ∈ cs, 0 ≤ c.1) : ∀ t : Nat, t ≤ 48 →
    runsI cs rule t = (runsS cs rule (preK cs t)).1 ++ (if 0 ≤ (runsS cs rule (preK cs t)).2.2 then [((runsS cs rule (preK cs t)).2.2, (t : Int))] else []) ∧
    (0 ≤ (runsS cs rule (preK cs t)).2.2 ↔ insB (stpK cs (preK cs t)) rule = true) ∧ (∀ p ∈ (runsS cs rule (preK cs t)).1, p.2 < (t : Int))
  | 0, _ => by
    have e : preK cs 0 = 0 := preK_eq (Nat.zero_le _) (fun j _ h => by omega) (fun h => by have := h0 _ (List.getElem_mem h); omega)
    rw [e]
    simp [runsI, runsS, stpK, sumI, insB_zero]
  | t + 1, ht => by
    obtain ⟨i1, i2, i3⟩ := runs_at hs h0 t (by omega)
    generalize hi : preK cs t = i at *
    generalize hi' : preK cs (t + 1) = i' at *
    have hle := preK_le cs t
    have hle' := preK_le cs (t + 1)
    rw [hi] at hle
    rw [hi'] at hle'
    have hii : i ≤ i' := by
      apply Classical.byContradiction
      intro hn
      have a := preK_ge (cs := cs) (t := t + 1) (by rw [hi']; omega)
      have b := preK_lt (cs := cs) (t := t) (j := preK cs (t + 1)) (by rw [hi, hi']; omega) (by rw [hi']; omega)
      push_cast at a
      omega
    have hall : ∀ (j : Nat) (hj : j < cs.length), i ≤ j → j < i' → cs[j].1 = (t : Int) := by
      intro j hj k1 k2
      have a := preK_lt (cs := cs) (t := t + 1) (j := j) (by rw [hi']; exact k2) hj
      have b := preK_ge (cs := cs) (t := t) (by rw [hi]; omega)
      have c := srt_get hs (i := preK cs t) (j := j) (by rw [hi]; exact k1) hj
      push_cast at a
      omega
    have hgt : ∀ h : i' < cs.length, (t : Int) < cs[i'].1 := by
      intro h
      have a := preK_ge (cs := cs) (t := t + 1) (by rw [hi']; exact h)
      simp only [hi'] at a
      push_cast at a
      omega
    rcases Nat.lt_or_ge i i' with hlt | hge
    · obtain ⟨d, rfl⟩ : ∃ d, i' = i + d + 1 := ⟨i' - i - 1, by omega⟩
      have hm := runsS_same (rule := rule) hs (v := (t : Int)) (i := i) (d := d) (fun j hj k1 k2 => hall j hj k1 (by omega)) (fun h => hall _ h (by omega) (by omega)) (by omega)
      have hat := hall (i + d) (by omega) (by omega) (by omega)
      have hlst : lstB cs (i + d) = true := by
        unfold lstB
        rcases Nat.lt_or_ge (i + d + 1) cs.length with h | h
        · have := hgt h
          rw [getD_cs (show i + d < cs.length by omega), getD_cs h, hat]
          simp [this]
        · have : i + d + 1 = cs.length := by omega
          simp [this]
      have hn := runsS_n cs rule (i + d) (by omega)
      have hsum := stpK_succ (cs := cs) (i := i + d) (by omega)
      have hR : runsI cs rule (t + 1) = if insB (stpK cs (i + d + 1)) rule then addR (runsI cs rule t) t else runsI cs rule t := by rw [runsI, hi']
      have hS : runsS cs rule (i + d + 1) = (if (decide ((runsS cs rule i).2.2 < 0) && insB (stpK cs (i + d + 1)) rule) = true then ((runsS cs rule i).1, stpK cs (i + d + 1), (t : Int))
          else if (decide (0 ≤ (runsS cs rule i).2.2) && !insB (stpK cs (i + d + 1)) rule) = true then ((runsS cs rule i).1 ++ [((runsS cs rule i).2.2, (t : Int))], stpK cs (i + d + 1), -1)
          else ((runsS cs rule i).1, stpK cs (i + d + 1), (runsS cs rule i).2.2)) := by
        rw [runsS]
        simp only [hm.1, hm.2, hn, getD_cs (show i + d < cs.length by omega), hat, hlst, ← hsum, Bool.true_and]
        have : decide ((t : Int) < 48) = true := by simp; omega
        rw [this, Bool.and_true]
      rw [hR, hS]
      generalize insB (stpK cs (i + d + 1)) rule = ib at *
      generalize runsS cs rule i = st at *
      obtain ⟨o, nn, f⟩ := st
      dsimp only at i1 i2 i3 hm ⊢
      rcases Int.lt_or_le f 0 with hf | hf
      · have f1 : ¬ 0 ≤ f := by omega
        rw [if_neg f1, List.append_nil] at i1
        cases ib
        · simp [f1, i1]
          intro a b hab
          have := i3 _ hab
          dsimp only at this
          omega
        · simp [hf, i1, addR_new i3]
          intro a b hab
          have := i3 _ hab
          dsimp only at this
          omega
      · have f1 : ¬ f < 0 := by omega
        rw [if_pos hf] at i1
        cases ib
        · simp [f1, hf, i1]
          intro a b hab
          rcases hab with hab | ⟨rfl, rfl⟩
          · have := i3 _ hab
            dsimp only at this
            omega
          · omega
        · simp [f1, hf, i1, addR_more]
          intro a b hab
          have := i3 _ hab
          dsimp only at this
          omega
    · obtain rfl : i = i' := by omega
      have hR : runsI cs rule (t + 1) = if insB (stpK cs i) rule then addR (runsI cs rule t) t else runsI cs rule t := by rw [runsI, hi']
      rw [hR]
      generalize insB (stpK cs i) rule = ib at *
      generalize runsS cs rule i = st at *
      obtain ⟨o, nn, f⟩ := st
      dsimp only at i1 i2 i3 ⊢
      refine ⟨?_, i2, fun p hp => by have := i3 p hp; push_cast; omega⟩
      rcases Int.lt_or_le f 0 with hf | hf
      · have f1 : ¬ 0 ≤ f := by omega
        have : ib = false := by
          cases ib
          · rfl
          · exact absurd (i2.2 rfl) f1
        subst this
        rw [if_neg f1] at i1 ⊢
        simpa using i1
      · have := i2.1 hf
        subst this
        rw [if_pos hf] at i1 ⊢
        rw [if_pos rfl, i1, addR_more]
        push_cast; rfl
/-- Both ways of finding the parts find the same. -/
theorem runs_eq (hs : SrtC cs) (h0 : ∀ c ∈ cs, 0 ≤ c.1 ∧ c.1 ≤ 48) : runsE cs rule = runsI cs rule 48 := by
  obtain ⟨i1, i2, i3⟩ := runs_at (rule := rule) hs (fun c hc => (h0 c hc).1) 48 (Nat.le_refl _)
  generalize hi : preK cs 48 = i at *
  have hle := preK_le cs 48
  rw [hi] at hle
  have hall : ∀ (j : Nat) (hj : j < cs.length), i ≤ j → cs[j].1 = 48 := by
    intro j hj k1
    have a := (h0 _ (List.getElem_mem hj)).2
    have b := preK_ge (cs := cs) (t := 48) (by rw [hi]; omega)
    have c := srt_get hs (i := preK cs 48) (j := j) (by rw [hi]; exact k1) hj
    push_cast at b
    omega
  rw [i1]
  unfold runsE
  rcases Nat.lt_or_ge i cs.length with hlt | hge
  · obtain ⟨d, hd⟩ : ∃ d, cs.length = i + d + 1 := ⟨cs.length - i - 1, by omega⟩
    have hm := runsS_same (rule := rule) hs (v := 48) (i := i) (d := d) (fun j hj k1 _ => hall j hj k1) (fun h => hall _ h (by omega)) (by omega)
    have hat := hall (i + d) (by omega) (by omega)
    have hS : runsS cs rule (i + d + 1) = (if (lstB cs (i + d) && (decide (0 ≤ (runsS cs rule i).2.2) && !insB ((runsS cs rule (i + d)).2.1 + (cs.getD (i + d) (0, 0)).2) rule)) = true then ((runsS cs rule i).1 ++ [((runsS cs rule i).2.2, 48)], (runsS cs rule (i + d)).2.1 + (cs.getD (i + d) (0, 0)).2, -1)
        else ((runsS cs rule i).1, (runsS cs rule (i + d)).2.1 + (cs.getD (i + d) (0, 0)).2, (runsS cs rule i).2.2)) := by
      have hat2 : (cs.getD (i + d) (0, 0)).1 = 48 := by rw [getD_cs (show i + d < cs.length by omega)]; exact hat
      rw [runsS]
      simp only [hm.1, hm.2, hat2]
      have : decide ((48 : Int) < 48) = false := by decide
      rw [this]
      simp
    rw [hd, hS]
    generalize insB ((runsS cs rule (i + d)).2.1 + (cs.getD (i + d) (0, 0)).2) rule = q
    generalize (runsS cs rule (i + d)).2.1 + (cs.getD (i + d) (0, 0)).2 = u
    generalize lstB cs (i + d) = v
    generalize runsS cs rule i = st
    obtain ⟨o, nn, f⟩ := st
    dsimp only
    rcases Int.lt_or_le f 0 with hf | hf
    · have f1 : ¬ 0 ≤ f := by omega
      simp [f1]
    · cases q <;> cases v <;> simp [hf]
  · obtain rfl : i = cs.length := by omega
    split <;> simp_all
end
end Go.Proofs.Yteknlifgejpjfaa
