/-
  Several texts in one: WorkL, WorkS, WorkT, WorkR, WorkV, WorkO.
-/
import Derived.Test.YtagmnbphbakikaaGreatMg1
import Derived.Test.YtagmnbphbakikaaGreatPair
import Derived.Test.YtagmnbphbakikaaGreatMg19
import Derived.Test.YtagmnbphbakikaaGreatMg3
import Derived.Test.YtagmnbphbakikaaGreatMg4
namespace Go.Proofs.YtagmnbphbakikaaGreat
abbrev WSt := List (List Int) × List Pt
/-- The tiles below n of queue r. -/
def qOf (W n r : Nat) : List Int := ((List.range n).filter (fun t => decide (t % W = r))).map (fun t : Nat => (t : Int))
def qs0 (W n : Nat) : List (List Int) := (List.range W).map (qOf W n)
def turnAt (W : Nat) (sc : List Pt) (i : Nat) : Nat × Nat := match sc[i]? with
  | some t => (t.1.toNat, t.2.toNat)
  | none => (i % W, (i + 1) % W)
def stepW (s : WSt) (t : Nat × Nat) : WSt :=
  if 0 < (s.1.getD t.1 []).length then (s.1.set t.1 (s.1.getD t.1 []).dropLast, s.2 ++ [((t.1 : Int), (s.1.getD t.1 []).getLastD 0)])
  else if 0 < (s.1.getD t.2 []).length then (s.1.set t.2 ((s.1.getD t.2 []).drop 1), s.2 ++ [((t.1 : Int), (s.1.getD t.2 []).headD 0)])
  else s
def wSt (W n : Nat) (sc : List Pt) : Nat → WSt
  | 0 => (qs0 W n, [])
  | i + 1 => stepW (wSt W n sc i) (turnAt W sc i)
def workL (W n : Nat) (sc : List Pt) : List Pt := (wSt W n sc 94).2
/-- Turns among W workers. -/
def ScOk (W : Nat) (sc : List Pt) : Prop := ∀ t ∈ sc, (0 ≤ t.1 ∧ t.1 < W) ∧ (0 ≤ t.2 ∧ t.2 < W)

theorem qOf_zero (W r : Nat) : qOf W 0 r = [] := rfl
theorem qOf_succ (W n r : Nat) : qOf W (n + 1) r = if n % W = r then qOf W n r ++ [(n : Int)] else qOf W n r := by
  unfold qOf
  rw [List.range_succ, List.filter_append, List.map_append]
  by_cases h : n % W = r <;> simp [h]
theorem qOf_len (W n r : Nat) : (qOf W n r).length ≤ n := by
  unfold qOf
  rw [List.length_map]
  have := List.length_filter_le (fun t => decide (t % W = r)) (List.range n)
  simpa using this
theorem qOf_bd {W n r : Nat} : ∀ x ∈ qOf W n r, 0 ≤ x ∧ x < n := by
  intro x hx
  unfold qOf at hx
  obtain ⟨t, ht, rfl⟩ := List.mem_map.1 hx
  have := List.mem_range.1 (List.mem_filter.1 ht).1
  omega
theorem qs0_len (W n : Nat) : (qs0 W n).length = W := by simp [qs0]
theorem qs0_get {W n r : Nat} (h : r < W) : (qs0 W n)[r]'(by rw [qs0_len]; exact h) = qOf W n r := by simp [qs0]
theorem qs0_zero (W : Nat) : qs0 W 0 = List.replicate W [] := by
  unfold qs0
  apply List.ext_getElem (by simp)
  intro i h1 h2
  simp [qOf_zero]
theorem qs0_succ {W n : Nat} : qs0 W (n + 1) = (qs0 W n).set (n % W) (qOf W n (n % W) ++ [(n : Int)]) := by
  apply List.ext_getElem (by simp [qs0])
  intro i h1 h2
  have hi : i < W := by rw [qs0_len] at h1; exact h1
  rw [qs0_get hi, qOf_succ]
  by_cases h : n % W = i
  · subst h; simp
  · rw [if_neg h, List.getElem_set_ne h, qs0_get hi]
/-- Tiles of a queue, taken in strides. -/
theorem qOf_stride {W r t : Nat} (hr : r < W) (ht : t % W = r) : ∀ j, j ≤ W → qOf W (t + j) r = if j = 0 then qOf W t r else qOf W t r ++ [(t : Int)]
  | 0, _ => by simp
  | 1, _ => by rw [qOf_succ, if_pos ht]; simp
  | j + 2, hj => by
    have ih := qOf_stride hr ht (j + 1) (by omega)
    rw [show t + (j + 2) = (t + (j + 1)) + 1 by omega, qOf_succ, ih, if_neg]
    · simp
    · intro h
      have h1 : (t + (j + 1)) % W = t % W := by rw [h, ht]
      have h2 := Nat.sub_mod_eq_zero_of_mod_eq h1
      rw [show t + (j + 1) - t = j + 1 by omega, Nat.mod_eq_of_lt (by omega)] at h2
      omega
theorem qOf_next {W r t : Nat} (hr : r < W) (ht : t % W = r) : qOf W (t + W) r = qOf W t r ++ [(t : Int)] := by
  rw [qOf_stride hr ht W (Nat.le_refl _), if_neg (by omega)]
/-- Between two tiles of a queue there is none. -/
theorem qOf_gap {W r t n : Nat} (ht : t % W = r) (h1 : n ≤ t) (h2 : t < n + W) : qOf W t r = qOf W n r := by
  have key : ∀ k, n + k ≤ t → qOf W (n + k) r = qOf W n r := by
    intro k
    induction k with
    | zero => intro _; rfl
    | succ k ih =>
      intro hk
      rw [show n + (k + 1) = (n + k) + 1 by omega, qOf_succ, if_neg, ih (by omega)]
      intro h
      have h4 : t % W = (n + k) % W := by rw [h, ht]
      have h5 := Nat.sub_mod_eq_zero_of_mod_eq h4
      rw [Nat.mod_eq_of_lt (by omega)] at h5
      omega
  have := key (t - n) (by omega)
  rwa [show n + (t - n) = t by omega] at this

section
variable {W n : Nat} {sc : List Pt}
theorem turnAt_lt (h0 : 0 < W) (hs : ScOk W sc) (i : Nat) : (turnAt W sc i).1 < W ∧ (turnAt W sc i).2 < W := by
  unfold turnAt
  cases h : sc[i]? with
  | none => exact ⟨Nat.mod_lt _ h0, Nat.mod_lt _ h0⟩
  | some t =>
    have := hs t (List.mem_of_getElem? h)
    dsimp only
    omega
theorem stepW_len (s : WSt) (t : Nat × Nat) : (stepW s t).1.length = s.1.length := by
  unfold stepW; split
  · simp
  · split <;> simp
theorem wSt_len (i : Nat) : (wSt W n sc i).1.length = W := by
  induction i with
  | zero => exact qs0_len W n
  | succ i ih => show (stepW _ _).1.length = W; rw [stepW_len, ih]

theorem flatten_set_perm {qs : List (List Int)} {a : Nat} (h : a < qs.length) (q' : List Int) (x : Int) (hp : (qs[a]).Perm (x :: q')) : qs.flatten.Perm (x :: (qs.set a q').flatten) := by
  have e1 : qs = qs.take a ++ qs[a] :: qs.drop (a + 1) := by rw [← List.drop_eq_getElem_cons h, List.take_append_drop]
  have e2 : qs.set a q' = qs.take a ++ q' :: qs.drop (a + 1) := List.set_eq_take_append_cons_drop.trans (by rw [if_pos h])
  rw [e2]
  conv => lhs; rw [e1]
  simp only [List.flatten_append, List.flatten_cons]
  have h1 : ((qs.take a).flatten ++ (qs[a] ++ (qs.drop (a + 1)).flatten)).Perm ((qs.take a).flatten ++ ((x :: q') ++ (qs.drop (a + 1)).flatten)) := (hp.append_right _).append_left _
  refine h1.trans ?_
  rw [List.cons_append]
  exact List.perm_middle
theorem getD_of {qs : List (List Int)} {a : Nat} (h : a < qs.length) : qs.getD a [] = qs[a] := by simp [h]
/-- One turn: a tile goes from a queue to what is drawn, or nothing happens. -/
theorem stepW_perm (s : WSt) (t : Nat × Nat) (h1 : t.1 < s.1.length) (h2 : t.2 < s.1.length) : ((stepW s t).2.map (·.2) ++ (stepW s t).1.flatten).Perm (s.2.map (·.2) ++ s.1.flatten) := by
  unfold stepW
  split
  · rename_i h
    rw [getD_of h1] at h ⊢
    dsimp only
    rw [List.map_append, List.append_assoc]
    refine List.Perm.append_left _ ?_
    simp only [List.map_cons, List.map_nil, List.cons_append, List.nil_append]
    refine (flatten_set_perm h1 _ _ ?_).symm
    have hne : s.1[t.1] ≠ [] := by intro hh; rw [hh] at h; simp at h
    have e : s.1[t.1].getLastD 0 = s.1[t.1].getLast hne := by
      rw [List.getLastD_eq_getLast?, List.getLast?_eq_some_getLast hne]; rfl
    rw [e]
    have := List.dropLast_concat_getLast hne
    conv => lhs; rw [← this]
    exact List.perm_append_singleton _ _
  · split
    · rename_i h
      rw [getD_of h2] at h ⊢
      dsimp only
      rw [List.map_append, List.append_assoc]
      refine List.Perm.append_left _ ?_
      simp only [List.map_cons, List.map_nil, List.cons_append, List.nil_append]
      refine (flatten_set_perm h2 _ _ ?_).symm
      generalize s.1[t.2] = q at *
      match q, h with
      | x :: q, _ => exact List.Perm.refl _
    · exact List.Perm.refl _
theorem qs0_perm (h0 : 0 < W) : (qs0 W n).flatten.Perm ((List.range n).map (fun t : Nat => (t : Int))) := by
  induction n with
  | zero =>
    rw [qs0_zero]
    have : (List.replicate W ([] : List Int)).flatten = [] := by simp
    rw [this]; exact List.Perm.refl _
  | succ n ih =>
    have hlt : n % W < (qs0 W n).length := by rw [qs0_len]; exact Nat.mod_lt _ h0
    have hlt' : n % W < ((qs0 W n).set (n % W) (qOf W n (n % W) ++ [(n : Int)])).length := by rw [List.length_set]; exact hlt
    rw [qs0_succ, List.range_succ, List.map_append]
    have h := flatten_set_perm hlt' (qOf W n (n % W)) (n : Int) (by rw [List.getElem_set_self]; exact List.perm_append_singleton _ _)
    refine h.trans ?_
    rw [List.set_set]
    have e : (qs0 W n).set (n % W) (qOf W n (n % W)) = qs0 W n := by
      rw [← qs0_get (n := n) (Nat.mod_lt n h0)]; exact List.set_getElem_self _
    rw [e]
    exact (List.Perm.cons _ ih).trans (List.perm_append_singleton _ _).symm
theorem wSt_perm (h0 : 0 < W) (hs : ScOk W sc) (i : Nat) : ((wSt W n sc i).2.map (·.2) ++ (wSt W n sc i).1.flatten).Perm ((List.range n).map (fun t : Nat => (t : Int))) := by
  induction i with
  | zero => simpa [wSt] using qs0_perm h0
  | succ i ih =>
    have ht := turnAt_lt h0 hs i
    exact (stepW_perm _ _ (by rw [wSt_len]; exact ht.1) (by rw [wSt_len]; exact ht.2)).trans ih
theorem wSt_total (h0 : 0 < W) (hs : ScOk W sc) (i : Nat) : (wSt W n sc i).2.length + (wSt W n sc i).1.flatten.length = n := by
  have := (wSt_perm h0 hs (n := n) i).length_eq
  simpa using this
theorem wSt_workers (h0 : 0 < W) (hs : ScOk W sc) (i : Nat) : ∀ d ∈ (wSt W n sc i).2, 0 ≤ d.1 ∧ d.1 < W := by
  induction i with
  | zero => intro d hd; cases hd
  | succ i ih =>
    have ht := turnAt_lt h0 hs i
    intro d hd
    have hd' : d ∈ (stepW (wSt W n sc i) (turnAt W sc i)).2 := hd
    unfold stepW at hd'
    split at hd'
    · rcases List.mem_append.1 hd' with h | h
      · exact ih d h
      · simp at h; subst h; dsimp only; omega
    · split at hd'
      · rcases List.mem_append.1 hd' with h | h
        · exact ih d h
        · simp at h; subst h; dsimp only; omega
      · exact ih d hd'
/-- A turn that draws nothing leaves all as it is. -/
theorem stepW_same (s : WSt) (t : Nat × Nat) (h : (stepW s t).2.length = s.2.length) : stepW s t = s := by
  unfold stepW at h ⊢
  split at h
  · simp at h
  · split at h
    · simp at h
    · rename_i h1 h2; rw [if_neg h1, if_neg h2]
theorem stepW_le (s : WSt) (t : Nat × Nat) : s.2.length ≤ (stepW s t).2.length ∧ (stepW s t).2.length ≤ s.2.length + 1 := by
  unfold stepW
  split
  · simp
  · split <;> simp
theorem wSt_mono (i j : Nat) (h : i ≤ j) : (wSt W n sc i).2.length ≤ (wSt W n sc j).2.length := by
  induction j with
  | zero => obtain rfl : i = 0 := by omega
            exact Nat.le_refl _
  | succ j ih =>
    rcases Nat.lt_or_ge i (j + 1) with hlt | hge
    · exact Nat.le_trans (ih (by omega)) (stepW_le _ _).1
    · obtain rfl : i = j + 1 := by omega
      exact Nat.le_refl _
theorem wSt_same {i : Nat} : ∀ j, (wSt W n sc (i + j)).2.length = (wSt W n sc i).2.length → wSt W n sc (i + j) = wSt W n sc i
  | 0, _ => rfl
  | j + 1, h => by
    have h1 := wSt_mono (W := W) (n := n) (sc := sc) i (i + j) (by omega)
    have h2 := (stepW_le (wSt W n sc (i + j)) (turnAt W sc (i + j))).1
    have h3 : (wSt W n sc (i + (j + 1))).2.length = (stepW (wSt W n sc (i + j)) (turnAt W sc (i + j))).2.length := rfl
    have e1 := wSt_same (i := i) j (by omega)
    have e2 := stepW_same (wSt W n sc (i + j)) (turnAt W sc (i + j)) (by omega)
    show stepW (wSt W n sc (i + j)) (turnAt W sc (i + j)) = _
    rw [e2, e1]
/-- Behind the script, in W turns something is drawn. -/
theorem wSt_prog (h0 : 0 < W) (hs : ScOk W sc) {i : Nat} (hi : sc.length ≤ i) (hp : (wSt W n sc i).2.length < n) : (wSt W n sc i).2.length < (wSt W n sc (i + W)).2.length := by
  have hm := wSt_mono (W := W) (n := n) (sc := sc) i (i + W) (by omega)
  rcases Nat.lt_or_ge (wSt W n sc i).2.length (wSt W n sc (i + W)).2.length with h | h
  · exact h
  exfalso
  have hall : ∀ j, j ≤ W → wSt W n sc (i + j) = wSt W n sc i := fun j hj => wSt_same j (by
    have h1 := wSt_mono (W := W) (n := n) (sc := sc) i (i + j) (by omega)
    have h2 := wSt_mono (W := W) (n := n) (sc := sc) (i + j) (i + W) (by omega)
    omega)
  have ht := wSt_total h0 hs (n := n) i
  have hex : ∃ w, w < W ∧ 0 < ((wSt W n sc i).1.getD w []).length := by
    have hl := wSt_len (W := W) (n := n) (sc := sc) i
    generalize (wSt W n sc i).1 = qs at *
    have hf : qs.flatten ≠ [] := by intro hh; rw [hh] at ht; simp at ht; omega
    obtain ⟨x, hx⟩ := List.exists_mem_of_ne_nil _ hf
    obtain ⟨q, hq, hxq⟩ := List.mem_flatten.1 hx
    obtain ⟨w, hw, rfl⟩ := List.getElem_of_mem hq
    exact ⟨w, by omega, by rw [getD_of hw]; exact List.length_pos_of_mem hxq⟩
  obtain ⟨w, hw, hne⟩ := hex
  obtain ⟨j, hj, hjw⟩ : ∃ j, j < W ∧ (i + j) % W = w := by
    refine ⟨(w + W - i % W) % W, Nat.mod_lt _ h0, ?_⟩
    have hlt := Nat.mod_lt i h0
    rw [Nat.add_mod_mod, ← Nat.mod_add_mod]
    rw [show i % W + (w + W - i % W) = w + W by omega, Nat.add_mod_right, Nat.mod_eq_of_lt hw]
  have h1 := hall j (by omega)
  have h2 := hall (j + 1) (by omega)
  have e : turnAt W sc (i + j) = (w, (i + j + 1) % W) := by
    unfold turnAt
    rw [List.getElem?_eq_none (by omega)]
    dsimp only
    rw [hjw]
  have h3 : wSt W n sc (i + (j + 1)) = stepW (wSt W n sc (i + j)) (turnAt W sc (i + j)) := rfl
  rw [h1, e] at h3
  rw [h2] at h3
  have h4 := congrArg (fun s : WSt => s.2.length) h3
  unfold stepW at h4
  rw [if_pos hne] at h4
  simp at h4
theorem wSt_bound (h0 : 0 < W) (hs : ScOk W sc) (k : Nat) : min n k ≤ (wSt W n sc (sc.length + W * k)).2.length := by
  induction k with
  | zero => simp
  | succ k ih =>
    have e : sc.length + W * (k + 1) = (sc.length + W * k) + W := by rw [Nat.mul_succ]; omega
    rw [e]
    rcases Nat.lt_or_ge (wSt W n sc (sc.length + W * k)).2.length n with h | h
    · have := wSt_prog h0 hs (i := sc.length + W * k) (by omega) h
      omega
    · have := wSt_mono (W := W) (n := n) (sc := sc) (sc.length + W * k) (sc.length + W * k + W) (by omega)
      omega
variable (h0 : 0 < W) (h4 : W ≤ 4) (hn : n ≤ 16) (hs : ScOk W sc) (hl : sc.length ≤ 30)
include h0 hs in
theorem wSt_le (i : Nat) : (wSt W n sc i).2.length ≤ n := by have := wSt_total h0 hs (n := n) i; omega
include h0 h4 hn hs hl in
theorem wSt_done : (wSt W n sc 94).2.length = n := by
  have h1 := wSt_bound h0 hs (n := n) 16
  have h2 := wSt_le h0 hs (n := n) 94
  have h3 : sc.length + W * 16 ≤ 94 := by omega
  have h5 := wSt_mono (W := W) (n := n) (sc := sc) _ _ h3
  omega
include h0 h4 hn hs hl in
/-- Something left: the turns are not over. -/
theorem wSt_more {i : Nat} (h : (wSt W n sc i).2.length < n) : i < 94 := by
  rcases Nat.lt_or_ge i 94 with h1 | h1
  · exact h1
  · have := wSt_mono (W := W) (n := n) (sc := sc) 94 i h1
    have := wSt_done h0 h4 hn hs hl
    omega
include h0 h4 hn hs hl in
theorem wSt_end {i : Nat} (hi : i ≤ 94) (h : ¬ (wSt W n sc i).2.length < n) : workL W n sc = (wSt W n sc i).2 := by
  have h1 := wSt_le h0 hs (n := n) i
  have h2 := wSt_done h0 h4 hn hs hl
  have := wSt_same (W := W) (n := n) (sc := sc) (i := i) (94 - i) (by rw [show i + (94 - i) = 94 by omega]; omega)
  rw [show i + (94 - i) = 94 by omega] at this
  unfold workL
  rw [this]
include h0 h4 hn hs hl in
theorem workL_len : (workL W n sc).length = n := wSt_done h0 h4 hn hs hl
include h0 h4 hn hs hl in
theorem workL_perm : ((workL W n sc).map (·.2)).Perm ((List.range n).map (fun t : Nat => (t : Int))) := by
  have h1 := wSt_perm h0 hs (n := n) 94
  have h2 := wSt_total h0 hs (n := n) 94
  have h3 := wSt_done h0 h4 hn hs hl
  have e : (wSt W n sc 94).1.flatten = [] := List.eq_nil_of_length_eq_zero (by omega)
  rw [e, List.append_nil] at h1
  exact h1
include h0 hs in
theorem workL_workers : ∀ d ∈ workL W n sc, 0 ≤ d.1 ∧ d.1 < W := wSt_workers h0 hs 94
end
/-! ### what the queues' slots hold -/
def slotsL (top : Nat) (xs : List Int) : List Int := List.replicate top (-1) ++ (xs ++ List.replicate (16 - top - xs.length) (-1))
theorem slotsL_len {top : Nat} {xs : List Int} (h : top + xs.length ≤ 16) : (slotsL top xs).length = 16 := by simp [slotsL]; omega
theorem slotsL_at {top : Nat} {xs : List Int} (h : top + xs.length ≤ 16) (i : Nat) (hi : i < 16) : (slotsL top xs)[i]'(by rw [slotsL_len h]; exact hi) = if h2 : top ≤ i ∧ i < top + xs.length then xs[i - top] else -1 := by
  unfold slotsL
  by_cases h1 : i < top
  · rw [List.getElem_append_left (by simpa using h1)]
    simp; omega
  · rw [List.getElem_append_right (by simpa using h1)]
    by_cases h2 : i < top + xs.length
    · rw [List.getElem_append_left (by simp; omega)]
      rw [dif_pos ⟨by omega, h2⟩]
      congr 1
      simp
    · rw [List.getElem_append_right (by simp; omega)]
      rw [dif_neg (by omega)]
      simp
theorem slotsL_ext {top : Nat} {xs : List Int} (h : top + xs.length ≤ 16) {l : List Int} (hl : l.length = 16) (hg : ∀ (i : Nat) (hi : i < 16), l[i] = if h2 : top ≤ i ∧ i < top + xs.length then xs[i - top] else -1) : l = slotsL top xs := by
  apply List.ext_getElem (by rw [hl, slotsL_len h])
  intro i h1 h2
  rw [hg i (by omega), slotsL_at h i (by omega)]
theorem slotsL_push {top : Nat} {xs : List Int} (h : top + xs.length < 16) (x : Int) : (slotsL top xs).set (top + xs.length) x = slotsL top (xs ++ [x]) := by
  refine slotsL_ext (by simp; omega) (by rw [List.length_set, slotsL_len (by omega)]) fun i hi => ?_
  rw [List.getElem_set]
  by_cases h1 : top + xs.length = i
  · subst h1
    rw [if_pos rfl, dif_pos ⟨by omega, by simp⟩]
    rw [List.getElem_append_right (by omega)]; simp
  · rw [if_neg h1, slotsL_at (by omega) i hi]
    by_cases h2 : top ≤ i ∧ i < top + xs.length
    · rw [dif_pos h2, dif_pos ⟨h2.1, by simp; omega⟩, List.getElem_append_left (by omega)]
    · rw [dif_neg h2, dif_neg (by simp; omega)]
theorem slotsL_pop {top : Nat} {xs : List Int} (h : top + xs.length ≤ 16) (h0 : 0 < xs.length) : (slotsL top xs).set (top + xs.length - 1) (-1) = slotsL top xs.dropLast := by
  refine slotsL_ext (by simp; omega) (by rw [List.length_set, slotsL_len (by omega)]) fun i hi => ?_
  rw [List.getElem_set]
  by_cases h1 : top + xs.length - 1 = i
  · rw [if_pos h1, dif_neg (by simp; omega)]
  · rw [if_neg h1, slotsL_at (by omega) i hi]
    by_cases h2 : top ≤ i ∧ i < top + xs.length
    · rw [dif_pos h2, dif_pos ⟨h2.1, by simp; omega⟩, List.getElem_dropLast]
    · rw [dif_neg h2, dif_neg (by simp; omega)]
theorem slotsL_steal {top : Nat} {xs : List Int} (h : top + xs.length ≤ 16) (h0 : 0 < xs.length) : (slotsL top xs).set top (-1) = slotsL (top + 1) (xs.drop 1) := by
  refine slotsL_ext (by simp; omega) (by rw [List.length_set, slotsL_len (by omega)]) fun i hi => ?_
  rw [List.getElem_set]
  by_cases h1 : top = i
  · rw [if_pos h1, dif_neg (by simp; omega)]
  · rw [if_neg h1, slotsL_at (by omega) i hi]
    by_cases h2 : top ≤ i ∧ i < top + xs.length
    · rw [dif_pos h2, dif_pos ⟨by omega, by simp; omega⟩, List.getElem_drop]
      congr 1; omega
    · rw [dif_neg h2, dif_neg (by simp; omega)]
theorem slotsL_nil : slotsL 0 [] = List.replicate 16 (-1) := rfl
theorem slotsL_bd {top : Nat} {xs : List Int} (h : top + xs.length ≤ 16) (hb : ∀ x ∈ xs, 0 ≤ x ∧ x ≤ 99) (i : Nat) (hi : i < (slotsL top xs).length) :
    (-1 ≤ (slotsL top xs)[i] ∧ (slotsL top xs)[i] ≤ 99) ∧ (0 ≤ (slotsL top xs)[i] ↔ (top ≤ i ∧ i < top + xs.length)) := by
  have hi' : i < 16 := by rw [slotsL_len h] at hi; exact hi
  rw [slotsL_at h i hi']
  by_cases h2 : top ≤ i ∧ i < top + xs.length
  · rw [dif_pos h2]
    have := hb _ (List.getElem_mem (show i - top < xs.length by omega))
    omega
  · rw [dif_neg h2]
    omega
end Go.Proofs.YtagmnbphbakikaaGreat
namespace Go.Proofs.YtagmnbphbakikaaGreat
open Go Go.RowKit Reg
attribute [local go_sem] calmAt calmUpon
theorem intC_len' (n : Int) : (intC n).length = 1 := rfl
theorem intC_one' (n : Int) : ∀ u ∈ intC n, u.oneCell' = true := by intro u hu; simp [intC] at hu; subst hu; rfl
theorem intC_set (xs : List Int) {k : Nat} (hk : k < xs.length) (x : Int) : (xs.flatMap intC).set k (.int .i64 x) = (xs.set k x).flatMap intC := by
  have := setAll_take_drop intC_len' xs hk x
  simpa [setAll, intC] using this
theorem intC_get (xs : List Int) {k : Nat} (hk : k < xs.length) : (xs.flatMap intC)[k]? = some (.int .i64 xs[k]) := by
  have := flat_get intC_len' xs [] k hk 0 (by omega)
  simpa [intC] using this
/-- A queue's slots (address, capacity), its top and its bottom. -/
abbrev Dq := Option Addr × Nat × Int × Int
def dqC (d : Dq) : List Value := [.slice d.1 16 d.2.1, .int .i64 d.2.2.1, .int .i64 d.2.2.2]
abbrev dqV (d : Dq) : Value := .agg #[.slice d.1 16 d.2.1, .int .i64 d.2.2.1, .int .i64 d.2.2.2]
theorem dqC_len (d : Dq) : (dqC d).length = 3 := rfl
theorem dqC_one (d : Dq) : ∀ u ∈ dqC d, u.oneCell' = true := by intro u hu; simp [dqC] at hu; rcases hu with rfl | rfl | rfl <;> rfl
theorem In.far1 {u : Value} {α : Type} {R : World → α → List Value → Prop} {sz : Nat} {w : World} {A : Option Addr} {xs : List α} {p : Addr} (h : In R sz w A xs) (hR : ∀ x us, R w x us → R (w.setCell p u) x us) (hp : ∀ b off, A = some ⟨b, off, none⟩ → b ≠ p.block) : In R sz (w.setCell p u) A xs := by
  intro h0
  obtain ⟨b, off, hA, hk⟩ := h h0
  refine ⟨b, off, hA, fun k hk' => ?_⟩
  obtain ⟨us, q1, q2, q3⟩ := hk k hk'
  refine ⟨us, hR _ _ q1, q2, fun j v hu => ?_⟩
  have := q3 j v hu
  have hbg := hp b off hA
  unfold World.cell? at this ⊢
  rw [Below.heap_setCell w p u b hbg]
  exact this
theorem has_ge {w : World} {B : Nat} {e : TypeId} {sz n cap : Nat} {A : Option Addr} {xs : List Value} (h : Has w B e sz (.slice A n cap) n xs) : ∀ b off, A = some ⟨b, off, none⟩ → B ≤ b := by
  intro b off hA
  subst hA
  exact (h.lt b rfl).1
/-- The queue d has the tiles xs, from the slot 'top' on. -/
def DqAt (w : World) (d : Dq) (top : Nat) (xs : List Int) : Prop :=
  d.2.2.1 = (top : Int) ∧ d.2.2.2 = ((top + xs.length : Nat) : Int) ∧ top + xs.length ≤ 16 ∧ Has w 0 3 1 (.slice d.1 16 d.2.1) 16 ((slotsL top xs).flatMap intC) ∧ (∀ x ∈ xs, 0 ≤ x ∧ x ≤ 99)
theorem DqAt.parts {w : World} {d : Dq} {top : Nat} {xs : List Int} (h : DqAt w d top xs) :
    d.2.2.1 = (top : Int) ∧ d.2.2.2 = ((top + xs.length : Nat) : Int) ∧ top + xs.length ≤ 16 ∧ Ints w d.1 (slotsL top xs) ∧ SlOk d.1 16 d.2.1 ∧ (∀ x ∈ xs, 0 ≤ x ∧ x ≤ 99) := by
  obtain ⟨h1, h2, h3, h4, h5⟩ := h
  have h6 : Has w 0 3 1 (.slice d.1 16 d.2.1) (slotsL top xs).length ((slotsL top xs).flatMap intC) := by rw [slotsL_len h3]; exact h4
  exact ⟨h1, h2, h3, own_in (R := intR) (enc := intC) intC_len' (by decide) h4 (fun _ => rfl), h4.slok, h5⟩
theorem DqAt.ext {w w' : World} {d : Dq} {top : Nat} {xs : List Int} (h : DqAt w d top xs) (hx : Ext w w') : DqAt w' d top xs := by
  obtain ⟨h1, h2, h3, h4, h5⟩ := h
  exact ⟨h1, h2, h3, own_ext h4 hx, h5⟩
theorem DqAt.far {w : World} {d : Dq} {top : Nat} {xs : List Int} (h : DqAt w d top xs) {g i : Nat} (hp : ∀ b off, d.1 = some ⟨b, off, none⟩ → b ≠ g) (u : Value) : DqAt (w.setCell ⟨g, i, none⟩ u) d top xs := by
  obtain ⟨h1, h2, h3, h4, h5⟩ := h
  obtain ⟨g', hA, _, _⟩ := own_at h4 (by omega)
  refine ⟨h1, h2, h3, h4.kept (only_set (only_refl w _) i u) ?_, h5⟩
  rw [hA]
  exact .inr fun hh => by injection hh with hh; exact hp g' 0 hA hh
theorem DqAt.grown {w w' : World} {d : Dq} {top : Nat} {xs : List Int} {B e sz n : Nat} {v : Value} {cs : List Value} (h : DqAt w d top xs) (ho : Has w B e sz v n cs) (he : e ≠ 3) (hg : w.grownBy w' v.ownBlock) : DqAt w' d top xs := by
  obtain ⟨h1, h2, h3, h4, h5⟩ := h
  exact ⟨h1, h2, h3, h4.grownNe ho he hg, h5⟩
def DqIs (w : World) (d : Dq) (xs : List Int) : Prop := ∃ top, DqAt w d top xs
theorem DqIs.ext {w w' : World} {d : Dq} {xs : List Int} (h : DqIs w d xs) (hx : Ext w w') : DqIs w' d xs := by
  obtain ⟨t, h⟩ := h; exact ⟨t, h.ext hx⟩
/-- Queues with their tiles. -/
def DsAre (w : World) (ds : List Dq) (qs : List (List Int)) : Prop := ds.length = qs.length ∧ ∀ (i : Nat) (h1 : i < ds.length) (h2 : i < qs.length), DqIs w ds[i] qs[i]
theorem DsAre.ext {w w' : World} {ds : List Dq} {qs : List (List Int)} (h : DsAre w ds qs) (hx : Ext w w') : DsAre w' ds qs := ⟨h.1, fun i h1 h2 => (h.2 i h1 h2).ext hx⟩
theorem DsAre.grown {w w' : World} {ds : List Dq} {qs : List (List Int)} {B e sz n : Nat} {v : Value} {cs : List Value} (h : DsAre w ds qs) (ho : Has w B e sz v n cs) (he : e ≠ 3) (hg : w.grownBy w' v.ownBlock) : DsAre w' ds qs :=
  ⟨h.1, fun i h1 h2 => by obtain ⟨t, h⟩ := h.2 i h1 h2; exact ⟨t, h.grown ho he hg⟩⟩
theorem DsAre.nil (w : World) : DsAre w [] [] := ⟨rfl, fun i h1 => by simp at h1⟩
theorem DsAre.snoc {w : World} {ds : List Dq} {qs : List (List Int)} {d : Dq} {xs : List Int} (h : DsAre w ds qs) (hd : DqIs w d xs) : DsAre w (ds ++ [d]) (qs ++ [xs]) := by
  refine ⟨by simp [h.1], fun i h1 h2 => ?_⟩
  have hl := h.1
  by_cases hi : i < ds.length
  · rw [List.getElem_append_left hi, List.getElem_append_left (by omega)]
    exact h.2 i hi (by omega)
  · have hi' : i = ds.length := by simp at h1; omega
    subst hi'
    have e1 : (ds ++ [d])[ds.length]'(by simp) = d := by simp
    have e2 : (qs ++ [xs])[ds.length]'(by simp [hl]) = xs := by simp [hl]
    rw [e1, e2]; exact hd
theorem DsAre.set {w : World} {ds : List Dq} {qs : List (List Int)} {d : Dq} {xs : List Int} (h : DsAre w ds qs) (k : Nat) (hd : DqIs w d xs) : DsAre w (ds.set k d) (qs.set k xs) := by
  refine ⟨by simp [h.1], fun i h1 h2 => ?_⟩
  simp only [List.length_set] at h1 h2
  by_cases hi : k = i
  · subst hi; simp; exact hd
  · rw [List.getElem_set_ne hi, List.getElem_set_ne hi]; exact h.2 i h1 h2
theorem NE_DI : (180 : TypeId) ≠ 3 := by decide
theorem ei_dq : EI Tryz.prog 144 180 (.agg #[.slice none 0 0, .int .i64 0, .int .i64 0]) [.slice none 0 0, .int .i64 0, .int .i64 0] 40 := ei_mk Tryz.underlying144 (by kernel_rfl) rfl (by decide) (by decide)
set_option maxRecDepth 100000 in
set_option maxHeartbeats 2000000 in
theorem c_empty (w : World) : Calls Tryz.prog 168 #[] w fun e w' => ∃ A cap, e = .returned (.slice A 16 cap) ∧ Has w' w.heap.size 3 1 (.slice A 16 cap) 16 ((List.replicate 16 (-1 : Int)).flatMap intC) ∧ Below w.heap.size w w' := by
  have E := Lib.hid (Below.refl w.heap.size w)
  go_enter Tryz.func168, Tryz.ntmps168
  go_wp2_with fail
  first | refine gen_calls ?_ | refine gen_code ?_ | refine gen_list ?_
  intro w0 hW
  obtain ⟨hb, hR⟩ := new1 hW
  clear hW
  replace E := Lib.hid (Ext.trans E.out hb)
  clear hb
  have R := Lib.hid hR
  have lR := R.out.lt
  clear hR
  have O := Lib.hid (own_of_row (n := 0) (B := w.heap.size) (sz := 1) R.out (Nat.le_refl _) rfl (by decide))
  clear R lR
  go_wp2_with fail
  go_loopw [1, 2] (fun o i wr => ∃ (k : Nat) (A1 : Option Addr) (cap1 : Nat) (xs : List Int), k ≤ 16 ∧ i = .int .i64 k ∧ o = .slice A1 xs.length cap1 ∧ xs = List.replicate k (-1) ∧ Has wr w.heap.size 3 1 (.slice A1 xs.length cap1) xs.length (xs.flatMap intC) ∧ Below w.heap.size w wr) (fun _ i _ => 16 - (intOf i).toNat)
  case atStart => exact ⟨0, _, 0, [], Nat.zero_le _, rfl, rfl, rfl, O.out, E.out⟩
  case round =>
    obtain ⟨k, A1, cap1, xs, hk, rfl, rfl, hxs, hor, hbw⟩ := hrel
    clear O E
    have O := Lib.hid hor
    have E := Lib.hid hbw
    have hzr : w.heap.size ≤ wr.heap.size := hbw.size
    have hxl : xs.length ≤ 16 := by rw [hxs]; simp; omega
    have Hxs := Lib.hid hxs
    clear hor hbw hxs
    by_cases hlt : k < 16
    · have hltI : decide ((k : Int) < 16) = true := by simp; omega
      have Hn : Hid (xs ++ [-1] = List.replicate (k + 1) (-1)) := Lib.hid (by rw [Hxs.out, List.replicate_succ']  )
      go_wp2_with (at_builtin; refine wpList_app (base := w.heap.size) ei_int rfl (.tmp 8) (.tmp 9) rfl rfl (own_ext O.out (ext_alloc _ _)) rfl (src_new _ _ [_] (m := 1) rfl (by intro u hu; simp only [List.mem_cons, List.not_mem_nil, or_false] at hu; subst hu; rfl)) (by omega) (by simp; omega) ?_; intro ve w3 hown hg hat; refine stop_in ?_)
      refine stop_out ?_
      obtain ⟨A3, cap3, hve⟩ := own_form hown
      replace E := Lib.hid (Below.grown (Ext.trans E.out (ext_alloc _ _)) hg (by simp; omega) (fun k hk => by have := (O.out.lt k hk).1; omega))
      have heq : xs ++ [(-1)] = (xs ++ [(-1)]) := rfl
      replace O : Hid (Has w3 w.heap.size 3 1 (.slice A3 ((xs ++ [(-1)])).length cap3) ((xs ++ [(-1)])).length (((xs ++ [(-1)])).flatMap intC)) := Lib.hid (by
        have q := hown
        rw [hve] at q
        rw [← heq, List.flatMap_append, List.length_append]
        exact q)
      have hvf : ve = .slice A3 ((xs ++ [(-1)])).length cap3 := by rw [hve, ← heq, List.length_append]; rfl
      clear hve
      clear hown hg hat heq
      subst hvf
      go_wp2
      go_roundw
      case rel => exact ⟨k + 1, A3, cap3, _, by omega, by go_num, rfl, Hn.out, O.out, E.out⟩
      case measure => simp [intOf]; omega
    · have hltI : decide ((k : Int) < 16) = false := by simp; omega
      have hk' : k = 16 := by omega
      have Hf : Hid (xs = List.replicate 16 (-1)) := Lib.hid (by rw [Hxs.out, hk'])
      have Hl : Hid (xs.length = 16) := Lib.hid (by rw [Hf.out]; simp)
      clear hk'
      go_wp2
      go_ret
      refine ⟨A1, cap1, by rw [Hl.out]; rfl, ?_, E.out⟩
      have := O.out
      rw [Hl.out] at this
      rw [← Hf.out]
      exact this
set_option maxHeartbeats 2000000 in
theorem c_copyInts (A : Option Addr) (cap : Nat) (ns : List Int) (w : World) (h : Ints w A ns) (hl : ns.length ≤ 1000000) :
    Calls Tryz.prog 188 #[.slice A ns.length cap] w fun e w' => ∃ A' cap', e = .returned (.slice A' ns.length cap') ∧ Has w' w.heap.size 3 1 (.slice A' ns.length cap') ns.length (ns.flatMap intC) ∧ Below w.heap.size w w' := by
  have H := Lib.hid h
  clear h
  go_enter Tryz.func188, Tryz.ntmps188
  have O : Hid (Has (w.alloc (.cells #[] 3)) w.heap.size 3 1 (.slice (some ⟨w.heap.size, 0, none⟩) 0 0) 0 []) := Lib.hid (own_of_row (n := 0) (sz := 1) (cs := []) (Row.new w 3 []) (Nat.le_refl _) rfl (by decide))
  have E1 : Hid (Ext w (w.alloc (.cells #[] 3))) := Lib.hid (ext_alloc w _)
  have S := Lib.hid ((H.out.ext intR_stab E1.out).src intC_len' (fun x us h => h) intC_one' (by decide))
  go_wp2_with (at_builtin; refine wpList_app (base := w.heap.size) ei_int rfl (.tmp 3) (.tmp 4) rfl rfl O.out rfl S.out (by omega) (by simp) ?_; intro v5 w5 hown hg hat; refine stop_in ?_)
  refine stop_out ?_
  obtain ⟨A5, cap5, hv5⟩ := own_form hown
  have E5 := Lib.hid (own_below E1.out O.out hg (by simp))
  rw [Nat.zero_add] at hown hv5
  rw [List.nil_append] at hown
  subst hv5
  have O5 := Lib.hid hown
  clear hown hg hat
  go_wp2
  go_ret
  exact ⟨A5, cap5, rfl, O5.out, E5.out⟩
set_option maxHeartbeats 2000000 in
theorem c_withSlot (A : Option Addr) (cap : Nat) (ns : List Int) (k : Nat) (x : Int) (w : World) (h : Ints w A ns) (hl : ns.length = 16) (hk : k < 16) :
    Calls Tryz.prog 170 #[.slice A 16 cap, .int .i64 k, .int .i64 x] w fun e w' => ∃ A' cap', e = .returned (.slice A' 16 cap') ∧ Has w' w.heap.size 3 1 (.slice A' 16 cap') 16 ((ns.set k x).flatMap intC) ∧ Below w.heap.size w w' := by
  have E := Lib.hid (Below.refl w.heap.size w)
  have K := Lib.hid (c_copyInts A cap ns w h (by omega))
  rw [hl] at K
  have Hl := Lib.hid hl
  have hm : Int.tmod (k : Int) 16 = (k : Int) := by have := tmod_nat k 16; rw [Nat.mod_eq_of_lt hk] at this; exact this
  clear h hl
  go_enter Tryz.func170, Tryz.ntmps170
  go_wp2_with fail
  refine (K.out).mono ?_
  rintro e w1 ⟨A1, cap1, rfl, ho1, hb⟩
  replace E := Lib.hid (Ext.trans E.out hb)
  clear hb
  have O := Lib.hid (ho1)
  clear ho1
  obtain ⟨g, rfl, hg1, hg2⟩ := own_at O.out (by omega)
  have ce := O.out.cellAt k (by omega)
  rw [intC_get ns (by have := Hl.out; omega)] at ce
  have fe := O.out.frozenAt k
  have St := Lib.hid (O.out.stored k (.int .i64 x)).1
  rw [intC_set ns (by have := Hl.out; omega)] at St
  go_wp2
  go_ret
  exact ⟨_, cap1, rfl, St.out, E.out.setCell (by simpa using hg1) _⟩
set_option maxRecDepth 100000 in
set_option maxHeartbeats 2000000 in
theorem c_filled (d : Dq) (top : Nat) (xs : List Int) (w : World) (h : DqAt w d top xs) : Calls Tryz.prog 187 #[dqV d] w fun e w' => e = .returned (.bool true) ∧ Below w.heap.size w w' := by
  obtain ⟨A, c, t, b⟩ := d
  obtain ⟨rfl, rfl, hle, hI, hs, hb⟩ := h.parts
  clear h
  obtain ⟨bn, hbn⟩ : ∃ bn, bn = top + xs.length := ⟨_, rfl⟩
  have Hsl := Lib.hid (slotsL_bd hle hb)
  have hl16 := slotsL_len hle
  try dsimp only at hI
  try dsimp only
  rw [← hbn]
  rw [← hbn] at Hsl hle
  clear hs hb
  generalize slotsL top xs = ns at *
  have htb : top ≤ bn := by omega
  clear hbn
  have H := Lib.hid hI
  have Hl := Lib.hid hl16
  have E := Lib.hid (Below.refl w.heap.size w)
  clear hI hl16
  go_enter Tryz.func187, Tryz.ntmps187
  go_wp2_with fail
  first | refine gen_calls ?_ | refine gen_code ?_ | refine gen_list ?_
  intro w0 hW
  obtain ⟨hb, hD⟩ := new1 hW
  clear hW
  replace E := Lib.hid (Ext.trans E.out hb)
  replace H := Lib.hid (H.out.ext intR_stab hb)
  clear hb
  have D := Lib.hid hD
  have lD := D.out.lt
  clear hD
  go_wp2_with fail
  go_loopw [3, 4, 5] (fun i _ _ wr => ∃ k : Nat, k ≤ 16 ∧ i = .int .i64 k ∧ Ext w0 wr) (fun i _ _ _ => 16 - (intOf i).toNat)
  case atStart => exact ⟨0, Nat.zero_le _, rfl, Below.refl _ _⟩
  case round =>
    obtain ⟨k, hk, rfl, hbw⟩ := hrel
    have X := Lib.hid hbw
    clear hbw
    by_cases hlt : k < 16
    · have hltI : decide ((k : Int) < 16) = true := by simp; omega
      obtain ⟨D1, hD1⟩ : ∃ D1 : Hid (Row wr w.heap.size _ _), D1 = Lib.hid (D.out.ext X.out) := ⟨_, rfl⟩
      clear hD1
      obtain ⟨wo, hwo⟩ : ∃ wo : World, wo = wr := ⟨_, rfl⟩
      subst hwo
      have d0 := D1.out.cell_of (i := 0) rfl
      have d1 := D1.out.cell_of (i := 1) rfl
      have d2 := D1.out.cell_of (i := 2) rfl
      go_wp2_with fail
      go_loopw [4, 5] (fun u n wr => ∃ m : Nat, top ≤ m ∧ m ≤ bn ∧ n = .int .i64 m ∧ u = .bool (decide (top ≤ k ∧ k < m)) ∧ wr = wo) (fun _ n _ => bn - (intOf n).toNat)
      case atStart => exact ⟨top, Nat.le_refl _, htb, rfl, by simp, rfl⟩
      case round =>
        obtain ⟨m, hm1, hm2, rfl, rfl, rfl⟩ := hrel
        by_cases hlm : m < bn
        · have hlmI : decide ((m : Int) < (bn : Int)) = true := by simp; omega
          have hmm : Int.tmod (m : Int) 16 = (m : Int) := by have := tmod_nat m 16; rw [Nat.mod_eq_of_lt (by omega)] at this; exact this
          have Hq : Hid (decide (top ≤ k ∧ k < m + 1) = (decide (top ≤ k ∧ k < m) || ((m : Int) == (k : Int)))) := Lib.hid (by rw [Bool.eq_iff_iff]; simp; omega)
          generalize decide (top ≤ k ∧ k < m) = q at *
          cases q
          · go_wp2
            go_roundw
            case rel => exact ⟨m + 1, by omega, by omega, by go_num, by rw [Hq.out]; simp, trivial⟩
            case measure => simp [intOf]; omega
          · go_wp2
            go_roundw
            case rel => exact ⟨m + 1, by omega, by omega, by go_num, by rw [Hq.out]; simp, trivial⟩
            case measure => simp [intOf]; omega
        · obtain rfl : m = bn := by omega
          have hlmI : decide ((m : Int) < (m : Int)) = false := by simp
          obtain ⟨b, off, hA, _, hc⟩ := (H.out.ext intR_stab X.out).ints (by have := Hl.out; omega)
          have ck := hc k (by have := Hl.out; omega)
          have hsl := (Hsl.out k (by have := Hl.out; omega)).2
          generalize hs : ns[k]'(by have := Hl.out; omega) = s at *
          clear hs hc
          subst hA
          by_cases hq : top ≤ k ∧ k < m
          · have h0 : 0 ≤ s := hsl.2 hq
            have hqd : decide (top ≤ k ∧ k < m) = true := by simp [hq]
            rw [hqd]
            clear hqd hsl hq
            go_wp2
            go_roundw
            case rel => exact ⟨k + 1, by omega, by go_num, X.out⟩
            case measure => simp [intOf]; omega
          · have h0 : ¬ 0 ≤ s := fun h => hq (hsl.1 h)
            have hqd : decide (top ≤ k ∧ k < m) = false := by simp [hq]
            rw [hqd]
            clear hqd hsl hq
            go_wp2
            go_roundw
            case rel => exact ⟨k + 1, by omega, by go_num, X.out⟩
            case measure => simp [intOf]; omega
    · have hltI : decide ((k : Int) < 16) = false := by simp; omega
      go_wp2
      go_ret
      exact ⟨rfl, Ext.trans E.out X.out⟩
end Go.Proofs.YtagmnbphbakikaaGreat
namespace Go.Proofs.YtagmnbphbakikaaGreat
open Go Go.RowKit Reg
attribute [local go_sem] calmAt calmUpon RegG.calmAt RegG.calmUpon
set_option maxRecDepth 100000 in
set_option maxHeartbeats 2000000 in
theorem c_validDeque (d : Dq) (top : Nat) (xs : List Int) (w : World) (h : DqAt w d top xs) : Calls Tryz.prog 169 #[dqV d] w fun e w' => e = .returned (.bool true) ∧ Below w.heap.size w w' := by
  have HQ := Lib.hid h
  obtain ⟨A, c, t, b⟩ := d
  obtain ⟨rfl, rfl, hle, hI, hs, hb⟩ := h.parts
  clear h
  have hl16 := slotsL_len hle
  have Hal : Hid ((slotsL top xs).all (fun n => inB n (-1) 99) = true) := Lib.hid (List.all_eq_true.2 fun x hx => by
    obtain ⟨i, hi, rfl⟩ := List.getElem_of_mem hx
    have := (slotsL_bd hle hb i hi).1
    rw [inB_iff]; omega)
  have K1 := Lib.hid (fun W hW => c_allIn A c (slotsL top xs) (-1) 99 W hW (by omega))
  rw [Hal.out, hl16] at K1
  have k2 : inB (top : Int) 0 500 = true := by rw [inB_iff]; omega
  have k3 : inB ((top + xs.length : Nat) : Int) (top : Int) ((top : Int) + 16) = true := by rw [inB_iff]; omega
  have h16 : ((top + xs.length : Nat) : Int) ≤ 500 := by omega
  obtain ⟨bn, hbn⟩ : ∃ bn, bn = ((top + xs.length : Nat) : Int) := ⟨_, rfl⟩
  try dsimp only at hI
  try dsimp only
  rw [← hbn] at k3 h16 HQ
  try rw [← hbn]
  have htop : top ≤ 16 := by omega
  clear hs hb Hal hbn hle hl16
  generalize slotsL top xs = ns at *
  have H := Lib.hid hI
  have k2 := Lib.hid k2
  have k3 := Lib.hid k3
  have E := Lib.hid (Below.refl w.heap.size w)
  clear hI
  go_enter Tryz.func169, Tryz.ntmps169
  go_wp2_with fail
  first | refine gen_calls ?_ | refine gen_code ?_ | refine gen_list ?_
  intro w0 hW
  obtain ⟨hb, hD⟩ := new1 hW
  clear hW
  replace E := Lib.hid (Ext.trans E.out hb)
  replace H := Lib.hid (H.out.ext intR_stab hb)
  replace HQ := Lib.hid (HQ.out.ext hb)
  clear hb
  have D := Lib.hid hD
  have lD := D.out.lt
  clear hD
  have d0 := D.out.cell_of (i := 0) rfl
  have d1 := D.out.cell_of (i := 1) rfl
  have d2 := D.out.cell_of (i := 2) rfl
  go_wp2_with fail
  refine (K1.out _ H.out).mono ?_
  rintro e w' ⟨rfl, rfl⟩
  go_wp2_with fail
  refine (c_inRange top 0 500 _).mono ?_
  rw [k2.out]
  rintro e w' ⟨rfl, rfl⟩
  go_wp2_with fail
  refine (c_inRange bn top (top + 16) _).mono ?_
  rw [k3.out]
  rintro e w' ⟨rfl, rfl⟩
  go_wp2_with fail
  clear d0 d1 d2
  refine (c_filled _ top xs _ HQ.out).mono ?_
  rintro e w1 ⟨rfl, hb⟩
  replace E := Lib.hid (Ext.trans E.out hb)
  replace H := Lib.hid (H.out.ext intR_stab hb)
  replace HQ := Lib.hid (HQ.out.ext hb)
  replace D := Lib.hid (D.out.ext hb)
  have lD := D.out.lt
  clear hb
  have d0 := D.out.cell_of (i := 0) rfl
  have d1 := D.out.cell_of (i := 1) rfl
  have d2 := D.out.cell_of (i := 2) rfl
  go_wp2
  go_ret
  exact ⟨rfl, E.out⟩
set_option maxRecDepth 100000 in
set_option maxHeartbeats 2000000 in
theorem c_NewDeque (w : World) : Calls Tryz.prog 132 #[] w fun e w' => ∃ d, e = .returned (dqV d) ∧ DqAt w' d 0 [] ∧ Below w.heap.size w w' := by
  have E := Lib.hid (Below.refl w.heap.size w)
  go_enter Tryz.func132, Tryz.ntmps132
  go_wp2_with fail
  first | refine gen_calls ?_ | refine gen_code ?_ | refine gen_list ?_
  intro w0 hW
  obtain ⟨hb, hZ⟩ := new1 hW
  clear hW
  replace E := Lib.hid (Ext.trans E.out hb)
  clear hb
  have Z := Lib.hid hZ
  have lZ := Z.out.lt
  clear hZ
  go_wp2_with fail
  refine (c_empty _).mono ?_
  rintro e w1 ⟨A, cap, rfl, ho, hb⟩
  replace E := Lib.hid (Ext.trans E.out hb)
  replace Z := Lib.hid (Z.out.ext hb)
  have lZ := Z.out.lt
  clear hb
  have O := Lib.hid (ho)
  clear ho
  have z0 := Z.out.cell_of (i := 0) rfl
  have zz0 := Z.out.frozen 0
  have z1 := Z.out.cell_of (i := 1) rfl
  have zz1 := Z.out.frozen 1
  have z2 := Z.out.cell_of (i := 2) rfl
  have zz2 := Z.out.frozen 2
  have Q : Hid (DqAt w1 (A, cap, 0, 0) 0 []) := Lib.hid ⟨rfl, rfl, by simp, O.out.rebase (Nat.zero_le _), by simp⟩
  have hz := E.out.size
  go_wp2_with fail
  have hge := has_ge O.out
  exact bodyPost_ret (v := dqV (A, cap, 0, 0)) (by simp [results, Tryz.results132, go_sem, z0, z1, z2]) rfl ⟨_, rfl, ((Q.out.far (fun b off hA => by have := hge b off hA; omega) _).far (fun b off hA => by have := hge b off hA; omega) _).far (fun b off hA => by have := hge b off hA; omega) _, ((E.out.setCell (by simp) _).setCell (by simp) _).setCell (by simp) _⟩
set_option maxRecDepth 100000 in
set_option maxHeartbeats 2000000 in
theorem c_PushTile (d : Dq) (top : Nat) (xs : List Int) (x : Int) (w : World) (h : DqAt w d top xs) (hl : top + xs.length < 16) (hx : 0 ≤ x ∧ x ≤ 99) :
    Calls Tryz.prog 133 #[dqV d, .int .i64 x] w fun e w' => ∃ d', e = .returned (.tuple #[dqV d', .bool true]) ∧ DqAt w' d' top (xs ++ [x]) ∧ Below w.heap.size w w' := by
  have HQ := Lib.hid h
  obtain ⟨A, c, t, b⟩ := d
  obtain ⟨rfl, rfl, hle, hI, hs, hb⟩ := h.parts
  clear h
  have hl16 := slotsL_len hle
  have Hp := Lib.hid (slotsL_push hl x)
  have Hb : Hid (∀ y ∈ xs ++ [x], 0 ≤ y ∧ y ≤ 99) := Lib.hid (fun y hy => by
    rcases List.mem_append.1 hy with h | h
    · exact hb y h
    · simp at h; subst h; exact hx)
  try dsimp only at hI
  try dsimp only
  obtain ⟨bn, hbn⟩ : ∃ bn, bn = top + xs.length := ⟨_, rfl⟩
  rw [← hbn] at Hp hl HQ ⊢
  have hn1 : ((bn : Nat) : Int) - (top : Int) ≠ 16 := by omega
  have hn2 : (((bn : Nat) : Int) - (top : Int) == 16) = false := by simp; omega
  have hn3 : (((bn : Nat) : Int) == 500) = false := by simp; omega
  have hxb := inB_iff (n := x) (lo := 0) (hi := 99) |>.2 hx
  have KW := Lib.hid (fun W hW => c_withSlot A c (slotsL top xs) bn x W hW hl16 hl)
  rw [Hp.out] at KW
  have Hbn : Hid (bn = top + xs.length) := Lib.hid hbn
  have htop : top ≤ bn := by omega
  clear hs hb hle hbn hl16 Hp
  have H := Lib.hid hI
  have Hx := Lib.hid hxb
  have E := Lib.hid (Below.refl w.heap.size w)
  clear hI hxb hn1
  go_enter Tryz.func133, Tryz.ntmps133
  go_wp2_with fail
  first | refine gen_calls ?_ | refine gen_code ?_ | refine gen_list ?_
  intro w0 hW
  obtain ⟨hb, hD, hZ⟩ := new2 hW
  clear hW
  replace E := Lib.hid (Ext.trans E.out hb)
  replace H := Lib.hid (H.out.ext intR_stab hb)
  replace HQ := Lib.hid (HQ.out.ext hb)
  clear hb
  have D := Lib.hid hD
  have lD := D.out.lt
  clear hD
  have Z := Lib.hid hZ
  have lZ := Z.out.lt
  clear hZ
  have d0 := D.out.cell_of (i := 0) rfl
  have d1 := D.out.cell_of (i := 1) rfl
  have d2 := D.out.cell_of (i := 2) rfl
  go_wp2_with fail
  clear d0 d1 d2
  refine (c_validDeque _ top xs _ HQ.out).mono ?_
  rintro e w1 ⟨rfl, hb⟩
  replace E := Lib.hid (Ext.trans E.out hb)
  replace H := Lib.hid (H.out.ext intR_stab hb)
  replace HQ := Lib.hid (HQ.out.ext hb)
  replace D := Lib.hid (D.out.ext hb)
  have lD := D.out.lt
  replace Z := Lib.hid (Z.out.ext hb)
  have lZ := Z.out.lt
  clear hb
  have d0 := D.out.cell_of (i := 0) rfl
  have d1 := D.out.cell_of (i := 1) rfl
  have d2 := D.out.cell_of (i := 2) rfl
  go_wp2_with fail
  refine (c_inRange x 0 99 _).mono ?_
  rw [Hx.out]
  rintro e w' ⟨rfl, rfl⟩
  clear d0 d1 d2
  have d0 := D.out.cell_of (i := 0) rfl
  have d1 := D.out.cell_of (i := 1) rfl
  have d2 := D.out.cell_of (i := 2) rfl
  have z0 := Z.out.cell_of (i := 0) rfl
  have zz0 := Z.out.frozen 0
  have z1 := Z.out.cell_of (i := 1) rfl
  have zz1 := Z.out.frozen 1
  have z2 := Z.out.cell_of (i := 2) rfl
  have zz2 := Z.out.frozen 2
  go_wp2_with fail
  have hwr : IntKind.i64.wrap (((bn : Nat) : Int) + 1) = ((bn : Nat) : Int) + 1 := IntWalk.i64_in _ (by omega)
  refine wp_region_calm [0,1,2,3,4,6,7,8,9,10] [5,11,12,13] (by kernel_rfl) (by kernel_rfl) ?_
  iterate 10 ((refine calm_yes rfl rfl (fun w' hC => (by have d0 := hC.cell d0; have d1 := hC.cell d1; have d2 := hC.cell d2; go_simp; rfl)) (fun K hK => ?_); go_simp; refine hK _ ?_; clear hK K))
  refine calm_nil (fun wa hCa => ?_)
  refine late_keep rfl rfl hCa (fun wb hxb hCb K hK => ?_)
  go_simp
  refine (KW.out wb (H.out.ext intR_stab (ext_cls hCb))).mono ?_
  rintro e wd ⟨A1, cap1, rfl, ho1, hb1⟩
  refine hK _ _ (Cls.ext hCb hb1) (fun hCd => ?_)
  clear hK K
  have Q1 : Hid (DqAt wd (A1, cap1, top, ((bn : Nat) : Int) + 1) top (xs ++ [x])) := Lib.hid ⟨rfl, by simp [Hbn.out]; omega, by have := Hbn.out; simp; omega, ho1.rebase (Nat.zero_le _), Hb.out⟩
  have hge := has_ge ho1
  have hwb := (ext_cls hCb).size
  refine late_free (by kernel_rfl) rfl rfl (fun we hxe K hK => ?_)
  go_simp
  refine hK _ _ ?_
  clear hK K
  have E1 := Lib.hid (Ext.trans (Ext.trans E.out (ext_cls hCd)) hxe)
  replace Q1 := Lib.hid (Q1.out.ext hxe)
  replace Z := Lib.hid ((Z.out.ext (ext_cls hCd)).ext hxe)
  clear hxe hCd hCb hCa hxb hb1 ho1
  clear d0 d1 d2 z0 zz0 z1 zz1 z2 zz2
  refine late_free (by kernel_rfl) rfl rfl (fun wf hxf K hK => ?_)
  replace E1 := Lib.hid (Ext.trans E1.out hxf)
  replace Q1 := Lib.hid (Q1.out.ext hxf)
  replace Z := Lib.hid (Z.out.ext hxf)
  clear hxf
  have z0 := Z.out.cell_of (i := 0) rfl
  have zz0 := Z.out.frozen 0
  have z1 := Z.out.cell_of (i := 1) rfl
  have zz1 := Z.out.frozen 1
  have z2 := Z.out.cell_of (i := 2) rfl
  have zz2 := Z.out.frozen 2
  go_simp
  refine hK _ _ ?_
  clear hK K hwr
  clear z0 zz0 z1 zz1 z2 zz2
  refine late_free (by kernel_rfl) rfl rfl (fun wg hxg K hK => ?_)
  have hz1 := E1.out.size
  replace Z := Lib.hid ((((Z.out.set_ 0 _).set_ 1 _).set_ 2 _).ext hxg)
  replace Q1 := Lib.hid (((((Q1.out.far (g := w.heap.size + 1) (i := 0) (fun b off hA => by have := hge b off hA; omega) _).far (g := w.heap.size + 1) (i := 1) (fun b off hA => by have := hge b off hA; omega) _).far (g := w.heap.size + 1) (i := 2) (fun b off hA => by have := hge b off hA; omega) _)).ext hxg)
  replace E1 := Lib.hid (Ext.trans (((E1.out.setCell (p := ⟨w.heap.size + 1, 0, none⟩) (by simp) _).setCell (p := ⟨w.heap.size + 1, 1, none⟩) (by simp) _).setCell (p := ⟨w.heap.size + 1, 2, none⟩) (by simp) _) hxg)
  clear hxg
  go_simp
  refine hK _ _ ?_
  clear hK K
  refine late_nil (fun wh hxh => ?_)
  replace Z := Lib.hid (Z.out.ext hxh)
  replace Q1 := Lib.hid (Q1.out.ext hxh)
  replace E1 := Lib.hid (Ext.trans E1.out hxh)
  clear hxh
  have z0 := Z.out.cell_of (i := 0) rfl
  have z1 := Z.out.cell_of (i := 1) rfl
  have z2 := Z.out.cell_of (i := 2) rfl
  go_wp2_with fail
  exact bodyPost_ret (v := .tuple #[dqV (A1, cap1, top, ((bn : Nat) : Int) + 1), .bool true]) (by simp [results, Tryz.results133, go_sem, z0, z1, z2]) rfl ⟨_, rfl, Q1.out, E1.out⟩
set_option maxRecDepth 100000 in
set_option maxHeartbeats 2000000 in
theorem c_PopTile0 (d : Dq) (w : World) (h : DqIs w d []) :
    Calls Tryz.prog 134 #[dqV d] w fun e w' => e = .returned (.tuple #[.agg #[.slice none 0 0, .int .i64 0, .int .i64 0], .int .i64 (-1), .bool false]) ∧ Below w.heap.size w w' := by
  obtain ⟨top, h⟩ := h
  have HQ := Lib.hid h
  obtain ⟨A, c, t, b⟩ := d
  obtain ⟨rfl, rfl, hle, hI, hs, hb⟩ := h.parts
  clear h
  try dsimp only
  have e : ((top + ([] : List Int).length : Nat) : Int) = (top : Int) := by simp
  rw [e] at HQ
  try rw [e]
  clear hI hs hb hle e
  have E := Lib.hid (Below.refl w.heap.size w)
  go_enter Tryz.func134, Tryz.ntmps134
  go_wp2_with fail
  first | refine gen_calls ?_ | refine gen_code ?_ | refine gen_list ?_
  intro w0 hW
  obtain ⟨hb, hD, hZ⟩ := new2 hW
  clear hW
  replace E := Lib.hid (Ext.trans E.out hb)
  replace HQ := Lib.hid (HQ.out.ext hb)
  clear hb
  have D := Lib.hid hD
  have lD := D.out.lt
  clear hD
  have Z := Lib.hid hZ
  have lZ := Z.out.lt
  clear hZ
  have d0 := D.out.cell_of (i := 0) rfl
  have d1 := D.out.cell_of (i := 1) rfl
  have d2 := D.out.cell_of (i := 2) rfl
  go_wp2_with fail
  clear d0 d1 d2
  refine (c_validDeque _ top [] _ HQ.out).mono ?_
  rintro e w1 ⟨rfl, hb⟩
  replace E := Lib.hid (Ext.trans E.out hb)
  replace HQ := Lib.hid (HQ.out.ext hb)
  replace D := Lib.hid (D.out.ext hb)
  have lD := D.out.lt
  replace Z := Lib.hid (Z.out.ext hb)
  have lZ := Z.out.lt
  clear hb
  have d0 := D.out.cell_of (i := 0) rfl
  have d1 := D.out.cell_of (i := 1) rfl
  have d2 := D.out.cell_of (i := 2) rfl
  clear d0 d1 d2
  have d0 := D.out.cell_of (i := 0) rfl
  have d1 := D.out.cell_of (i := 1) rfl
  have d2 := D.out.cell_of (i := 2) rfl
  have z0 := Z.out.cell_of (i := 0) rfl
  have zz0 := Z.out.frozen 0
  have z1 := Z.out.cell_of (i := 1) rfl
  have zz1 := Z.out.frozen 1
  have z2 := Z.out.cell_of (i := 2) rfl
  have zz2 := Z.out.frozen 2
  go_wp2_with fail
  exact bodyPost_ret (v := .tuple #[.agg #[.slice none 0 0, .int .i64 0, .int .i64 0], .int .i64 (-1), .bool false]) (by simp [results, Tryz.results134, go_sem, z0, z1, z2]) rfl ⟨rfl, ((E.out.setCell (by simp) _).setCell (by simp) _).setCell (by simp) _⟩
set_option maxRecDepth 100000 in
set_option maxHeartbeats 2000000 in
theorem c_PopTile (d : Dq) (top : Nat) (xs : List Int) (w : World) (h : DqAt w d top xs) (h0 : 0 < xs.length) :
    Calls Tryz.prog 134 #[dqV d] w fun e w' => ∃ d', e = .returned (.tuple #[dqV d', .int .i64 (xs.getLastD 0), .bool true]) ∧ DqAt w' d' top xs.dropLast ∧ Below w.heap.size w w' := by
  have HQ := Lib.hid h
  obtain ⟨A, c, t, b⟩ := d
  obtain ⟨rfl, rfl, hle, hI, hs, hb⟩ := h.parts
  clear h
  have hl16 := slotsL_len hle
  have Hp := Lib.hid (slotsL_pop hle h0)
  have Hb : Hid (∀ y ∈ xs.dropLast, 0 ≤ y ∧ y ≤ 99) := Lib.hid (fun y hy => hb y ((List.dropLast_sublist xs).subset hy))
  try dsimp only at hI
  try dsimp only
  obtain ⟨pn, hpn⟩ : ∃ pn, top + xs.length = pn + 1 := ⟨top + xs.length - 1, by omega⟩
  obtain ⟨bi, hbi⟩ : ∃ bi, bi = ((top + xs.length : Nat) : Int) := ⟨_, rfl⟩
  rw [← hbi] at HQ
  try rw [← hbi]
  have hat := slotsL_at hle pn (by omega)
  rw [dif_pos (by omega)] at hat
  have hout : xs[pn - top]'(by omega) = (xs.getLastD 0) := by
    have h1 : xs[pn - top]? = xs[xs.length - 1]? := by rw [show pn - top = xs.length - 1 by omega]
    rw [List.getElem?_eq_getElem (by omega)] at h1
    rw [List.getLastD_eq_getLast?, List.getLast?_eq_getElem?, ← h1]; rfl
  rw [hout] at hat
  obtain ⟨bq, off, rfl, hbq, hc⟩ := hI.ints (by omega)
  have cs := hc pn (by omega)
  rw [hat] at cs
  clear hat hout hc
  have KW := Lib.hid (fun W hW => c_withSlot (some ⟨bq, off, none⟩) c (slotsL top xs) pn (-1) W hW hl16 (by omega))
  have Hpp : Hid ((slotsL top xs).set pn (-1) = slotsL top xs.dropLast) := Lib.hid (by rw [← Hp.out, show top + xs.length - 1 = pn by omega])
  rw [Hpp.out] at KW
  have Hpn : Hid (top + xs.length = pn + 1) := Lib.hid hpn
  have hne : ((top : Int) == bi) = false := by simp; omega
  have hne2 : ¬ (top : Int) = bi := by omega
  have hb1 : bi - 1 = (pn : Int) := by omega
  have hm : Int.tmod ((pn : Nat) : Int) 16 = ((pn : Nat) : Int) := by have := tmod_nat pn 16; rw [Nat.mod_eq_of_lt (by omega)] at this; exact this
  have hwr : IntKind.i64.wrap (bi - 1) = bi - 1 := IntWalk.i64_in _ (by omega)
  have hk0 : (0 : Int) ≤ ((pn : Nat) : Int) := by omega
  have hk1 : ((pn : Nat) : Int) < 16 := by omega
  have Hbi := Lib.hid hbi
  have H0 := Lib.hid h0
  have Hle := Lib.hid hle
  obtain ⟨s, hs'⟩ : ∃ s, s = (xs.getLastD 0) := ⟨_, rfl⟩
  rw [← hs'] at cs ⊢
  clear hs' hs hb hle hbi hl16 Hp Hpp hpn h0
  have H := Lib.hid hI
  have Cs := Lib.hid cs
  have E := Lib.hid (Below.refl w.heap.size w)
  clear hI cs
  go_enter Tryz.func134, Tryz.ntmps134
  go_wp2_with fail
  first | refine gen_calls ?_ | refine gen_code ?_ | refine gen_list ?_
  intro w0 hW
  obtain ⟨hb, hD, hZ⟩ := new2 hW
  clear hW
  replace E := Lib.hid (Ext.trans E.out hb)
  replace H := Lib.hid (H.out.ext intR_stab hb)
  replace HQ := Lib.hid (HQ.out.ext hb)
  replace Cs := Lib.hid (Cls.cell hb Cs.out)
  clear hb
  have D := Lib.hid hD
  have lD := D.out.lt
  clear hD
  have Z := Lib.hid hZ
  have lZ := Z.out.lt
  clear hZ
  have d0 := D.out.cell_of (i := 0) rfl
  have d1 := D.out.cell_of (i := 1) rfl
  have d2 := D.out.cell_of (i := 2) rfl
  go_wp2_with fail
  clear d0 d1 d2
  refine (c_validDeque _ top xs _ HQ.out).mono ?_
  rintro e w1 ⟨rfl, hb⟩
  replace E := Lib.hid (Ext.trans E.out hb)
  replace H := Lib.hid (H.out.ext intR_stab hb)
  replace HQ := Lib.hid (HQ.out.ext hb)
  replace Cs := Lib.hid (Cls.cell hb Cs.out)
  replace D := Lib.hid (D.out.ext hb)
  have lD := D.out.lt
  replace Z := Lib.hid (Z.out.ext hb)
  have lZ := Z.out.lt
  clear hb
  have d0 := D.out.cell_of (i := 0) rfl
  have d1 := D.out.cell_of (i := 1) rfl
  have d2 := D.out.cell_of (i := 2) rfl
  clear d0 d1 d2
  have d0 := D.out.cell_of (i := 0) rfl
  have d1 := D.out.cell_of (i := 1) rfl
  have d2 := D.out.cell_of (i := 2) rfl
  have z0 := Z.out.cell_of (i := 0) rfl
  have zz0 := Z.out.frozen 0
  have z1 := Z.out.cell_of (i := 1) rfl
  have zz1 := Z.out.frozen 1
  have z2 := Z.out.cell_of (i := 2) rfl
  have zz2 := Z.out.frozen 2
  go_wp2_with fail
  have cs := Cs.out
  refine RegG.wp_region_calm (fun i => i = w.heap.size + 1) [0,1,2,4,5,6,8,9,10,11,12,13] [3,7,14,15,16] (by kernel_rfl) (by kernel_rfl) ?_
  iterate 12 ((refine RegG.calm_yes rfl rfl (fun w' hC => (by have d0 := hC.cell d0 (by simp); have d1 := hC.cell d1 (by simp); have d2 := hC.cell d2 (by simp); have cs := hC.cell cs (by simp; omega); go_simp; rfl)) (fun K hK => ?_); go_simp; refine hK _ ?_; clear hK K))
  refine RegG.calm_nil (fun wa hxa => ?_)
  refine RegG.late_keep rfl rfl ((RegG.Cls.refl _).ext hxa) (fun wb hxb hCb K hK => ?_)
  have hXb : Ext w1 wb := Ext.trans (ext_cls hxa) hxb
  go_simp
  refine (KW.out wb (H.out.ext intR_stab hXb)).mono ?_
  rintro e wd ⟨A1, cap1, rfl, ho1, hb1⟩
  refine hK _ _ (hCb.ext hb1) (fun hCd => ?_)
  clear hK K
  have Q1 : Hid (DqAt wd (A1, cap1, (top : Int), (pn : Int)) top xs.dropLast) := Lib.hid ⟨rfl, by have := Hpn.out; have := H0.out; simp; omega, by have := Hle.out; have := H0.out; simp; omega, ho1.rebase (Nat.zero_le _), Hb.out⟩
  have hge := has_ge ho1
  have hwb := hXb.size
  refine RegG.late_keep rfl rfl hCd (fun we hxe hCe K hK => ?_)
  go_simp
  refine hK _ _ hCe (fun _ => ?_)
  clear hK K
  have E1 := Lib.hid (Ext.trans (Ext.trans (Ext.trans E.out hXb) hb1) hxe)
  replace Q1 := Lib.hid (Q1.out.ext hxe)
  replace Z := Lib.hid (((Z.out.ext hXb).ext hb1).ext hxe)
  clear hxe hCd hCb hxa hxb hXb hb1 ho1
  clear d0 d1 d2 z0 zz0 z1 zz1 z2 zz2
  refine RegG.late_keep rfl rfl hCe (fun wf hxf hCf K hK => ?_)
  replace E1 := Lib.hid (Ext.trans E1.out hxf)
  replace Q1 := Lib.hid (Q1.out.ext hxf)
  replace Z := Lib.hid (Z.out.ext hxf)
  clear hxf
  have z0 := Z.out.cell_of (i := 0) rfl
  have zz0 := Z.out.frozen 0
  have z1 := Z.out.cell_of (i := 1) rfl
  have zz1 := Z.out.frozen 1
  have z2 := Z.out.cell_of (i := 2) rfl
  have zz2 := Z.out.frozen 2
  go_simp
  refine hK _ _ (((hCf.set (p := ⟨w.heap.size + 1, 0, none⟩) rfl _).set (p := ⟨w.heap.size + 1, 1, none⟩) rfl _).set (p := ⟨w.heap.size + 1, 2, none⟩) rfl _) (fun hCg => ?_)
  clear hK K hwr hCe hCf hCg
  clear z0 zz0 z1 zz1 z2 zz2
  refine RegG.late_free (by kernel_rfl) rfl rfl (fun wg hxg K hK => ?_)
  have hz1 := E1.out.size
  replace Z := Lib.hid ((((Z.out.set_ 0 _).set_ 1 _).set_ 2 _).ext hxg)
  replace Q1 := Lib.hid (((((Q1.out.far (g := w.heap.size + 1) (i := 0) (fun b off hA => by have := hge b off hA; omega) _).far (g := w.heap.size + 1) (i := 1) (fun b off hA => by have := hge b off hA; omega) _).far (g := w.heap.size + 1) (i := 2) (fun b off hA => by have := hge b off hA; omega) _)).ext hxg)
  replace E1 := Lib.hid (Ext.trans (((E1.out.setCell (p := ⟨w.heap.size + 1, 0, none⟩) (by simp) _).setCell (p := ⟨w.heap.size + 1, 1, none⟩) (by simp) _).setCell (p := ⟨w.heap.size + 1, 2, none⟩) (by simp) _) hxg)
  clear hxg
  go_simp
  refine hK _ _ ?_
  clear hK K
  refine RegG.late_free (by kernel_rfl) rfl rfl (fun wi hxi K hK => ?_)
  go_simp
  refine hK _ _ ?_
  clear hK K
  refine RegG.late_nil (fun wh hxh' => ?_)
  have hxh := Ext.trans hxi hxh'
  replace Z := Lib.hid (Z.out.ext hxh)
  replace Q1 := Lib.hid (Q1.out.ext hxh)
  replace E1 := Lib.hid (Ext.trans E1.out hxh)
  clear hxh hxh' hxi
  have z0 := Z.out.cell_of (i := 0) rfl
  have z1 := Z.out.cell_of (i := 1) rfl
  have z2 := Z.out.cell_of (i := 2) rfl
  go_wp2_with fail
  exact bodyPost_ret (v := .tuple #[dqV (A1, cap1, (top : Int), (pn : Int)), .int .i64 s, .bool true]) (by simp [results, Tryz.results134, go_sem, z0, z1, z2]) rfl ⟨_, rfl, Q1.out, E1.out⟩
set_option maxRecDepth 100000 in
set_option maxHeartbeats 2000000 in
theorem c_StealTile0 (d : Dq) (w : World) (h : DqIs w d []) :
    Calls Tryz.prog 135 #[dqV d] w fun e w' => e = .returned (.tuple #[.agg #[.slice none 0 0, .int .i64 0, .int .i64 0], .int .i64 (-1), .bool false]) ∧ Below w.heap.size w w' := by
  obtain ⟨top, h⟩ := h
  have HQ := Lib.hid h
  obtain ⟨A, c, t, b⟩ := d
  obtain ⟨rfl, rfl, hle, hI, hs, hb⟩ := h.parts
  clear h
  try dsimp only
  have e : ((top + ([] : List Int).length : Nat) : Int) = (top : Int) := by simp
  rw [e] at HQ
  try rw [e]
  clear hI hs hb hle e
  have E := Lib.hid (Below.refl w.heap.size w)
  go_enter Tryz.func135, Tryz.ntmps135
  go_wp2_with fail
  first | refine gen_calls ?_ | refine gen_code ?_ | refine gen_list ?_
  intro w0 hW
  obtain ⟨hb, hD, hZ⟩ := new2 hW
  clear hW
  replace E := Lib.hid (Ext.trans E.out hb)
  replace HQ := Lib.hid (HQ.out.ext hb)
  clear hb
  have D := Lib.hid hD
  have lD := D.out.lt
  clear hD
  have Z := Lib.hid hZ
  have lZ := Z.out.lt
  clear hZ
  have d0 := D.out.cell_of (i := 0) rfl
  have d1 := D.out.cell_of (i := 1) rfl
  have d2 := D.out.cell_of (i := 2) rfl
  go_wp2_with fail
  clear d0 d1 d2
  refine (c_validDeque _ top [] _ HQ.out).mono ?_
  rintro e w1 ⟨rfl, hb⟩
  replace E := Lib.hid (Ext.trans E.out hb)
  replace HQ := Lib.hid (HQ.out.ext hb)
  replace D := Lib.hid (D.out.ext hb)
  have lD := D.out.lt
  replace Z := Lib.hid (Z.out.ext hb)
  have lZ := Z.out.lt
  clear hb
  have d0 := D.out.cell_of (i := 0) rfl
  have d1 := D.out.cell_of (i := 1) rfl
  have d2 := D.out.cell_of (i := 2) rfl
  clear d0 d1 d2
  have d0 := D.out.cell_of (i := 0) rfl
  have d1 := D.out.cell_of (i := 1) rfl
  have d2 := D.out.cell_of (i := 2) rfl
  have z0 := Z.out.cell_of (i := 0) rfl
  have zz0 := Z.out.frozen 0
  have z1 := Z.out.cell_of (i := 1) rfl
  have zz1 := Z.out.frozen 1
  have z2 := Z.out.cell_of (i := 2) rfl
  have zz2 := Z.out.frozen 2
  go_wp2_with fail
  exact bodyPost_ret (v := .tuple #[.agg #[.slice none 0 0, .int .i64 0, .int .i64 0], .int .i64 (-1), .bool false]) (by simp [results, Tryz.results135, go_sem, z0, z1, z2]) rfl ⟨rfl, ((E.out.setCell (by simp) _).setCell (by simp) _).setCell (by simp) _⟩
set_option maxRecDepth 100000 in
set_option maxHeartbeats 2000000 in
theorem c_StealTile (d : Dq) (top : Nat) (xs : List Int) (w : World) (h : DqAt w d top xs) (h0 : 0 < xs.length) :
    Calls Tryz.prog 135 #[dqV d] w fun e w' => ∃ d', e = .returned (.tuple #[dqV d', .int .i64 (xs.headD 0), .bool true]) ∧ DqAt w' d' (top + 1) (xs.drop 1) ∧ Below w.heap.size w w' := by
  have HQ := Lib.hid h
  obtain ⟨A, c, t, b⟩ := d
  obtain ⟨rfl, rfl, hle, hI, hs, hb⟩ := h.parts
  clear h
  have hl16 := slotsL_len hle
  have Hp := Lib.hid (slotsL_steal hle h0)
  have Hb : Hid (∀ y ∈ (xs.drop 1), 0 ≤ y ∧ y ≤ 99) := Lib.hid (fun y hy => hb y (List.mem_of_mem_drop hy))
  try dsimp only at hI
  try dsimp only
  obtain ⟨pn, hpn⟩ : ∃ pn, top + xs.length = pn + 1 := ⟨top + xs.length - 1, by omega⟩
  obtain ⟨bi, hbi⟩ : ∃ bi, bi = ((top + xs.length : Nat) : Int) := ⟨_, rfl⟩
  rw [← hbi] at HQ
  try rw [← hbi]
  have hat := slotsL_at hle top (by omega)
  rw [dif_pos (by omega)] at hat
  have hout : xs[top - top]'(by omega) = (xs.headD 0) := by
    have : xs ≠ [] := by intro hh; subst hh; simp at h0
    match xs, h0 with
    | y :: ys, _ => simp
  rw [hout] at hat
  obtain ⟨bq, off, rfl, hbq, hc⟩ := hI.ints (by omega)
  have cs := hc top (by omega)
  rw [hat] at cs
  clear hat hout hc
  have KW := Lib.hid (fun W hW => c_withSlot (some ⟨bq, off, none⟩) c (slotsL top xs) top (-1) W hW hl16 (by omega))
  have Hpp : Hid ((slotsL top xs).set top (-1) = slotsL (top + 1) (xs.drop 1)) := Lib.hid (Hp.out)
  rw [Hpp.out] at KW
  have Hpn : Hid (top + xs.length = pn + 1) := Lib.hid hpn
  have hne : ((top : Int) == bi) = false := by simp; omega
  have hne2 : ¬ (top : Int) = bi := by omega
  have hb1 : bi - 1 = (pn : Int) := by omega
  have hm : Int.tmod ((top : Nat) : Int) 16 = ((top : Nat) : Int) := by have := tmod_nat top 16; rw [Nat.mod_eq_of_lt (by omega)] at this; exact this
  have hwr : IntKind.i64.wrap ((top : Int) + 1) = (top : Int) + 1 := IntWalk.i64_in _ (by omega)
  have hk0 : (0 : Int) ≤ ((top : Nat) : Int) := by omega
  have hk1 : ((top : Nat) : Int) < 16 := by omega
  have Hbi := Lib.hid hbi
  have H0 := Lib.hid h0
  have Hle := Lib.hid hle
  obtain ⟨s, hs'⟩ : ∃ s, s = (xs.headD 0) := ⟨_, rfl⟩
  rw [← hs'] at cs ⊢
  clear hs' hs hb hle hbi hl16 Hp Hpp hpn h0
  have H := Lib.hid hI
  have Cs := Lib.hid cs
  have E := Lib.hid (Below.refl w.heap.size w)
  clear hI cs
  go_enter Tryz.func135, Tryz.ntmps135
  go_wp2_with fail
  first | refine gen_calls ?_ | refine gen_code ?_ | refine gen_list ?_
  intro w0 hW
  obtain ⟨hb, hD, hZ⟩ := new2 hW
  clear hW
  replace E := Lib.hid (Ext.trans E.out hb)
  replace H := Lib.hid (H.out.ext intR_stab hb)
  replace HQ := Lib.hid (HQ.out.ext hb)
  replace Cs := Lib.hid (Cls.cell hb Cs.out)
  clear hb
  have D := Lib.hid hD
  have lD := D.out.lt
  clear hD
  have Z := Lib.hid hZ
  have lZ := Z.out.lt
  clear hZ
  have d0 := D.out.cell_of (i := 0) rfl
  have d1 := D.out.cell_of (i := 1) rfl
  have d2 := D.out.cell_of (i := 2) rfl
  go_wp2_with fail
  clear d0 d1 d2
  refine (c_validDeque _ top xs _ HQ.out).mono ?_
  rintro e w1 ⟨rfl, hb⟩
  replace E := Lib.hid (Ext.trans E.out hb)
  replace H := Lib.hid (H.out.ext intR_stab hb)
  replace HQ := Lib.hid (HQ.out.ext hb)
  replace Cs := Lib.hid (Cls.cell hb Cs.out)
  replace D := Lib.hid (D.out.ext hb)
  have lD := D.out.lt
  replace Z := Lib.hid (Z.out.ext hb)
  have lZ := Z.out.lt
  clear hb
  have d0 := D.out.cell_of (i := 0) rfl
  have d1 := D.out.cell_of (i := 1) rfl
  have d2 := D.out.cell_of (i := 2) rfl
  clear d0 d1 d2
  have d0 := D.out.cell_of (i := 0) rfl
  have d1 := D.out.cell_of (i := 1) rfl
  have d2 := D.out.cell_of (i := 2) rfl
  have z0 := Z.out.cell_of (i := 0) rfl
  have zz0 := Z.out.frozen 0
  have z1 := Z.out.cell_of (i := 1) rfl
  have zz1 := Z.out.frozen 1
  have z2 := Z.out.cell_of (i := 2) rfl
  have zz2 := Z.out.frozen 2
  go_wp2_with fail
  have cs := Cs.out
  refine RegG.wp_region_calm (fun i => i = w.heap.size + 1) [0,1,2,3,5,6,7,8,9,11,12,13,14,15,16,17] [4,10,18,19,20] (by kernel_rfl) (by kernel_rfl) ?_
  iterate 16 ((refine RegG.calm_yes rfl rfl (fun w' hC => (by have d0 := hC.cell d0 (by simp); have d1 := hC.cell d1 (by simp); have d2 := hC.cell d2 (by simp); have cs := hC.cell cs (by simp; omega); go_simp; rfl)) (fun K hK => ?_); go_simp; refine hK _ ?_; clear hK K))
  refine RegG.calm_nil (fun wa hxa => ?_)
  refine RegG.late_keep rfl rfl ((RegG.Cls.refl _).ext hxa) (fun wb hxb hCb K hK => ?_)
  have hXb : Ext w1 wb := Ext.trans (ext_cls hxa) hxb
  go_simp
  refine (KW.out wb (H.out.ext intR_stab hXb)).mono ?_
  rintro e wd ⟨A1, cap1, rfl, ho1, hb1⟩
  refine hK _ _ (hCb.ext hb1) (fun hCd => ?_)
  clear hK K
  have Q1 : Hid (DqAt wd (A1, cap1, (top : Int) + 1, bi) (top + 1) (xs.drop 1)) := Lib.hid ⟨by push_cast; rfl, by
    have h1 := H0.out
    have h2 : (xs.drop 1).length = xs.length - 1 := by simp
    rw [h2]; have h3 := Hbi.out; dsimp only; omega, by have := Hle.out; have := H0.out; simp; omega, ho1.rebase (Nat.zero_le _), Hb.out⟩
  have hge := has_ge ho1
  have hwb := hXb.size
  refine RegG.late_keep rfl rfl hCd (fun we hxe hCe K hK => ?_)
  go_simp
  refine hK _ _ hCe (fun _ => ?_)
  clear hK K
  have E1 := Lib.hid (Ext.trans (Ext.trans (Ext.trans E.out hXb) hb1) hxe)
  replace Q1 := Lib.hid (Q1.out.ext hxe)
  replace Z := Lib.hid (((Z.out.ext hXb).ext hb1).ext hxe)
  clear hxe hCd hCb hxa hxb hXb hb1 ho1
  clear d0 d1 d2 z0 zz0 z1 zz1 z2 zz2
  refine RegG.late_keep rfl rfl hCe (fun wf hxf hCf K hK => ?_)
  replace E1 := Lib.hid (Ext.trans E1.out hxf)
  replace Q1 := Lib.hid (Q1.out.ext hxf)
  replace Z := Lib.hid (Z.out.ext hxf)
  clear hxf
  have z0 := Z.out.cell_of (i := 0) rfl
  have zz0 := Z.out.frozen 0
  have z1 := Z.out.cell_of (i := 1) rfl
  have zz1 := Z.out.frozen 1
  have z2 := Z.out.cell_of (i := 2) rfl
  have zz2 := Z.out.frozen 2
  go_simp
  refine hK _ _ (((hCf.set (p := ⟨w.heap.size + 1, 0, none⟩) rfl _).set (p := ⟨w.heap.size + 1, 1, none⟩) rfl _).set (p := ⟨w.heap.size + 1, 2, none⟩) rfl _) (fun hCg => ?_)
  clear hK K hwr hCe hCf hCg
  clear z0 zz0 z1 zz1 z2 zz2
  refine RegG.late_free (by kernel_rfl) rfl rfl (fun wg hxg K hK => ?_)
  have hz1 := E1.out.size
  replace Z := Lib.hid ((((Z.out.set_ 0 _).set_ 1 _).set_ 2 _).ext hxg)
  replace Q1 := Lib.hid (((((Q1.out.far (g := w.heap.size + 1) (i := 0) (fun b off hA => by have := hge b off hA; omega) _).far (g := w.heap.size + 1) (i := 1) (fun b off hA => by have := hge b off hA; omega) _).far (g := w.heap.size + 1) (i := 2) (fun b off hA => by have := hge b off hA; omega) _)).ext hxg)
  replace E1 := Lib.hid (Ext.trans (((E1.out.setCell (p := ⟨w.heap.size + 1, 0, none⟩) (by simp) _).setCell (p := ⟨w.heap.size + 1, 1, none⟩) (by simp) _).setCell (p := ⟨w.heap.size + 1, 2, none⟩) (by simp) _) hxg)
  clear hxg
  go_simp
  refine hK _ _ ?_
  clear hK K
  refine RegG.late_free (by kernel_rfl) rfl rfl (fun wi hxi K hK => ?_)
  go_simp
  refine hK _ _ ?_
  clear hK K
  refine RegG.late_nil (fun wh hxh' => ?_)
  have hxh := Ext.trans hxi hxh'
  replace Z := Lib.hid (Z.out.ext hxh)
  replace Q1 := Lib.hid (Q1.out.ext hxh)
  replace E1 := Lib.hid (Ext.trans E1.out hxh)
  clear hxh hxh' hxi
  have z0 := Z.out.cell_of (i := 0) rfl
  have z1 := Z.out.cell_of (i := 1) rfl
  have z2 := Z.out.cell_of (i := 2) rfl
  go_wp2_with fail
  exact bodyPost_ret (v := .tuple #[dqV (A1, cap1, (top : Int) + 1, bi), .int .i64 s, .bool true]) (by simp [results, Tryz.results135, go_sem, z0, z1, z2]) rfl ⟨_, rfl, Q1.out, E1.out⟩
end Go.Proofs.YtagmnbphbakikaaGreat
namespace Go.Proofs.YtagmnbphbakikaaGreat
open Go Go.RowKit Reg
attribute [local go_sem] calmAt calmUpon
/-- A turn: the queues behind it, and the tile that is drawn, -1 for none. -/
def popQ (qs : List (List Int)) (a b : Nat) : List (List Int) × Int :=
  if 0 < (qs.getD a []).length then (qs.set a (qs.getD a []).dropLast, (qs.getD a []).getLastD 0)
  else if 0 < (qs.getD b []).length then (qs.set b ((qs.getD b []).drop 1), (qs.getD b []).headD 0)
  else (qs, -1)
theorem stepW_popQ (qs : List (List Int)) (out : List Pt) (a b : Nat) (ha : a < qs.length) (hb : b < qs.length) (hq : ∀ q ∈ qs, ∀ x ∈ q, 0 ≤ x) :
    stepW (qs, out) (a, b) = ((popQ qs a b).1, if 0 ≤ (popQ qs a b).2 then out ++ [((a : Int), (popQ qs a b).2)] else out) := by
  unfold stepW popQ
  dsimp only
  split
  · rename_i h
    rw [getD_of ha] at h ⊢
    have hne : qs[a] ≠ [] := by intro hh; rw [hh] at h; simp at h
    have : 0 ≤ (qs[a]).getLastD 0 := by
      rw [List.getLastD_eq_getLast?, List.getLast?_eq_some_getLast hne]
      exact hq _ (List.getElem_mem ha) _ (List.getLast_mem hne)
    dsimp only
    rw [if_pos this]
  · split
    · rename_i h
      rw [getD_of hb] at h ⊢
      have : 0 ≤ (qs[b]).headD 0 := by
        have := hq _ (List.getElem_mem hb)
        generalize qs[b] = q at *
        match q, h with
        | x :: q, _ => exact this x (by simp)
      dsimp only
      rw [if_pos this]
    · dsimp only; rw [if_neg (by omega)]
def dqR : World → Dq → List Value → Prop := fun _ d us => us = dqC d
theorem dqR_stab : Stab dqR := fun _ _ _ _ h _ => h
theorem In.dqs {w : World} {A : Option Addr} {ds : List Dq} (h : In dqR 3 w A ds) (hn : 0 < ds.length) : ∃ b off, A = some ⟨b, off, none⟩ ∧ b < w.heap.size ∧
    ∀ (k : Nat) (h : k < ds.length), w.cell? ⟨b, off + k * 3, none⟩ = some (.slice ds[k].1 16 ds[k].2.1) ∧ w.cell? ⟨b, off + k * 3 + 1, none⟩ = some (.int .i64 ds[k].2.2.1) ∧ w.cell? ⟨b, off + k * 3 + 2, none⟩ = some (.int .i64 ds[k].2.2.2) := by
  have hlt := h.lt (by omega) hn
  obtain ⟨b, off, hA, hc⟩ := h hn
  refine ⟨b, off, hA, hlt b off hA, fun k hk => ?_⟩
  obtain ⟨us, h1, _, h3⟩ := hc k hk
  have h1' : us = dqC ds[k] := h1
  subst h1'
  exact ⟨h3 0 _ rfl, h3 1 _ rfl, h3 2 _ rfl⟩
theorem dq_set (ds : List Dq) {k : Nat} (hk : k < ds.length) (d : Dq) : (((ds.flatMap dqC).set (k * 3) (.slice d.1 16 d.2.1)).set (k * 3 + 1) (.int .i64 d.2.2.1)).set (k * 3 + 2) (.int .i64 d.2.2.2) = (ds.set k d).flatMap dqC := by
  have := setAll_take_drop dqC_len ds hk d
  simpa [setAll, dqC] using this
theorem Has.some_at {w : World} {B e sz n g cap : Nat} {xs : List Value} (h : Has w B e sz (.slice (some ⟨g, 0, none⟩) n cap) n xs) (j : Nat) (hj : j < n * sz) : ∃ u, w.cell? ⟨g, j, none⟩ = some u :=
  ⟨_, by rw [h.cellAt j hj]; exact List.getElem?_eq_getElem (by have := h.1; omega)⟩
theorem dq_store {w w6 W7 : World} {g cap a : Nat} {ds : List Dq} {qs : List (List Int)} {d : Dq} {xs : List Int} (hO : Has w6 w.heap.size 180 3 (.slice (some ⟨g, 0, none⟩) ds.length cap) ds.length (ds.flatMap dqC))
    (hd : DsAre w6 ds qs) (hE : DqIs w6 d xs) (hb : Ext w w6) (hg : w.heap.size ≤ g) (ha : a < ds.length) (hX : Ext w6 W7) :
    Has (((W7.setCell ⟨g, a * 3, none⟩ (.slice d.1 16 d.2.1)).setCell ⟨g, a * 3 + 1, none⟩ (.int .i64 d.2.2.1)).setCell ⟨g, a * 3 + 2, none⟩ (.int .i64 d.2.2.2)) w.heap.size 180 3 (.slice (some ⟨g, 0, none⟩) (ds.set a d).length cap) (ds.set a d).length ((ds.set a d).flatMap dqC) ∧
    DsAre (((W7.setCell ⟨g, a * 3, none⟩ (.slice d.1 16 d.2.1)).setCell ⟨g, a * 3 + 1, none⟩ (.int .i64 d.2.2.1)).setCell ⟨g, a * 3 + 2, none⟩ (.int .i64 d.2.2.2)) (ds.set a d) (qs.set a xs) ∧
    Below w.heap.size w (((W7.setCell ⟨g, a * 3, none⟩ (.slice d.1 16 d.2.1)).setCell ⟨g, a * 3 + 1, none⟩ (.int .i64 d.2.2.1)).setCell ⟨g, a * 3 + 2, none⟩ (.int .i64 d.2.2.2)) := by
  have h7 := own_ext hO hX
  have st := ((h7.stored (a * 3) (.slice d.1 16 d.2.1)).1.stored (a * 3 + 1) (.int .i64 d.2.2.1)).1.stored (a * 3 + 2) (.int .i64 d.2.2.2)
  rw [dq_set ds ha d] at st
  refine ⟨by rw [List.length_set]; exact st.1, ((hd.set a hE).ext hX).grown h7 NE_DI (only_set (only_set (only_set (only_refl W7 _) (a * 3) _) (a * 3 + 1) _) (a * 3 + 2) _), (((Ext.trans hb hX).setCell (by exact hg) _).setCell (by exact hg) _).setCell (by exact hg) _⟩
theorem dq_box {w w8 : World} {n7 g cap B n : Nat} {ds : List Dq} {qs : List (List Int)} {cs rs : List Value} (u0 u1 u2 : Value) (hO : Has w8 B 180 3 (.slice (some ⟨g, 0, none⟩) n cap) n cs)
    (hd : DsAre w8 ds qs) (hb : Ext w w8) (hR : Row w8 n7 180 rs) (hn : w.heap.size ≤ n7) (hg : g ≠ n7) :
    Has (((w8.setCell ⟨n7, 0, none⟩ u0).setCell ⟨n7, 1, none⟩ u1).setCell ⟨n7, 2, none⟩ u2) B 180 3 (.slice (some ⟨g, 0, none⟩) n cap) n cs ∧
    DsAre (((w8.setCell ⟨n7, 0, none⟩ u0).setCell ⟨n7, 1, none⟩ u1).setCell ⟨n7, 2, none⟩ u2) ds qs ∧
    (∀ d xs, DqIs w8 d xs → DqIs (((w8.setCell ⟨n7, 0, none⟩ u0).setCell ⟨n7, 1, none⟩ u1).setCell ⟨n7, 2, none⟩ u2) d xs) ∧
    Below w.heap.size w (((w8.setCell ⟨n7, 0, none⟩ u0).setCell ⟨n7, 1, none⟩ u1).setCell ⟨n7, 2, none⟩ u2) := by
  have G : w8.grownBy (((w8.setCell ⟨n7, 0, none⟩ u0).setCell ⟨n7, 1, none⟩ u1).setCell ⟨n7, 2, none⟩ u2) (some n7) := only_set (only_set (only_set (only_refl w8 _) 0 _) 1 _) 2 _
  have key : ∀ d xs, DqIs w8 d xs → DqIs (((w8.setCell ⟨n7, 0, none⟩ u0).setCell ⟨n7, 1, none⟩ u1).setCell ⟨n7, 2, none⟩ u2) d xs := fun d xs ⟨t, h1, h2, h3, h4, h5⟩ =>
    ⟨t, h1, h2, h3, h4.kept G (.inr fun hh => ne_block hR h4 (Ne.symm NE_DI) hh.symm), h5⟩
  refine ⟨hO.kept G (.inr fun hh => hg (by simpa [Value.ownBlock] using hh)), ⟨hd.1, fun i h1 h2 => key _ _ (hd.2 i h1 h2)⟩, key, ((hb.setCell (by exact hn) _).setCell (by exact hn) _).setCell (by exact hn) _⟩
set_option maxRecDepth 100000 in
set_option maxHeartbeats 4000000 in
theorem c_turn (A : Option Addr) (cap : Nat) (ds : List Dq) (qs : List (List Int)) (a b : Nat) (w : World) (h : In dqR 3 w A ds) (hd : DsAre w ds qs) (ha : a < ds.length) (hb : b < ds.length) (hl : ds.length ≤ 4) :
    Calls Tryz.prog 91 #[.slice A ds.length cap, .agg #[.int .i64 a, .int .i64 b]] w fun e w' => ∃ A' cap' ds', e = .returned (.tuple #[.slice A' ds'.length cap', .int .i64 (popQ qs a b).2]) ∧
      Has w' w.heap.size 180 3 (.slice A' ds'.length cap') ds'.length (ds'.flatMap dqC) ∧ DsAre w' ds' (popQ qs a b).1 ∧ Below w.heap.size w w' := by
  have Hlq := Lib.hid hd.1
  have H := Lib.hid h
  have Hd := Lib.hid hd
  clear h
  obtain ⟨bA, off, hA, hbA, hc⟩ := H.out.dqs (by omega)
  obtain ⟨ca0, ca1, ca2⟩ := hc a ha
  have hda := hd.2 a ha (by have := Hlq.out; omega)
  subst hA
  by_cases hna : 0 < (qs.getD a []).length
  · have Hp : Hid (popQ qs a b = (qs.set a (qs.getD a []).dropLast, (qs.getD a []).getLastD 0)) := Lib.hid (by unfold popQ; rw [if_pos hna])
    have hg : qs.getD a [] = qs[a]'(by have := Hlq.out; omega) := getD_of (by have := Hlq.out; omega)
    rw [hg] at Hp hna
    rw [Hp.out]
    dsimp only
    have HDa := Lib.hid hda
    generalize hxs : qs[a]'(by have := Hlq.out; omega) = xs at *
    generalize hdv : ds[a] = d at *
    clear hc hg hda hxs hdv Hp hd
    obtain ⟨tl, htl⟩ : ∃ tl, tl = xs.getLastD 0 := ⟨_, rfl⟩
    rw [← htl]
    obtain ⟨top, HDt⟩ := HDa.out
    have KP := Lib.hid (fun W (hW : DqAt W d top xs) => c_PopTile d top xs W hW hna)
    rw [← htl] at KP
    have HDt := Lib.hid HDt
    clear HDa hna htl
    go_enter Tryz.func91, Tryz.ntmps91
    have E := Lib.hid (Below.refl w.heap.size w)
    have Ca0 := Lib.hid ca0
    have Ca1 := Lib.hid ca1
    have Ca2 := Lib.hid ca2
    clear ca0 ca1 ca2
    go_wp2_with (at_builtin; refine stop_in ?_)
    refine stop_out ?_
    refine gen_list ?_
    intro w1 hW
    obtain ⟨hb, hT, hZ⟩ := new2 hW
    clear hW
    replace E := Lib.hid (Ext.trans E.out hb)
    clear hb
    have T := Lib.hid hT
    have lT := T.out.lt
    clear hT
    have Z := Lib.hid hZ
    have lZ := Z.out.lt
    clear hZ
    have O := Lib.hid (own_of_row (n := 0) (B := w.heap.size) (sz := 3) Z.out (by omega) rfl (by decide))
    clear Z lZ
    have S := Lib.hid ((H.out.ext dqR_stab E.out).src dqC_len (fun x us h => h) dqC_one (by decide))
    refine wpList_app (base := w.heap.size) ei_dq rfl (.tmp 10) (.tmp 11) rfl rfl O.out rfl S.out (by omega) E.out.size ?_
    intro v5 w5 hown hg hat
    refine stop_in ?_
    refine stop_out ?_
    obtain ⟨A5, cap5, hv5⟩ := own_form hown
    rw [Nat.zero_add] at hown hv5
    rw [List.nil_append] at hown
    subst hv5
    replace T := Lib.hid (T.out.grownNe O.out (by decide) hg)
    replace E := Lib.hid (own_below E.out O.out hg E.out.size)
    have O5 : Hid (Has w5 w.heap.size 180 3 (.slice A5 ds.length cap5) ds.length (ds.flatMap dqC)) := Lib.hid hown
    clear hown hg hat O S
    replace Hd := Lib.hid (Hd.out.ext E.out)
    replace HDt := Lib.hid (HDt.out.ext E.out)
    replace Ca0 := Lib.hid (Cls.cell E.out Ca0.out)
    replace Ca1 := Lib.hid (Cls.cell E.out Ca1.out)
    replace Ca2 := Lib.hid (Cls.cell E.out Ca2.out)
    have cCa0 := Ca0.out
    have cCa1 := Ca1.out
    have cCa2 := Ca2.out
    have t0 := T.out.cell_of (i := 0) rfl
    have t1 := T.out.cell_of (i := 1) rfl
    have hal : (a : Int) < (ds.length : Int) := by omega
    go_wp2_with fail
    clear cCa0 cCa1 cCa2 t0 t1
    refine (KP.out _ HDt.out).mono ?_
    rintro e w6 ⟨d', rfl, hd', hb⟩
    replace E := Lib.hid (Ext.trans E.out hb)
    replace T := Lib.hid (T.out.ext hb)
    have lT := T.out.lt
    replace O5 := Lib.hid (own_ext O5.out hb)
    replace Hd := Lib.hid (Hd.out.ext hb)
    replace HDt := Lib.hid (HDt.out.ext hb)
    replace Ca0 := Lib.hid (Cls.cell hb Ca0.out)
    replace Ca1 := Lib.hid (Cls.cell hb Ca1.out)
    replace Ca2 := Lib.hid (Cls.cell hb Ca2.out)
    clear hb
    have cCa0 := Ca0.out
    have cCa1 := Ca1.out
    have cCa2 := Ca2.out
    have t0 := T.out.cell_of (i := 0) rfl
    have t1 := T.out.cell_of (i := 1) rfl
    have HE := Lib.hid hd'
    clear hd'
    obtain ⟨g, rfl, hg1, hg2⟩ := own_at O5.out (by omega)
    obtain ⟨o0, co0⟩ := O5.out.some_at (a * 3) (by omega)
    obtain ⟨o1, co1⟩ := O5.out.some_at (a * 3 + 1) (by omega)
    obtain ⟨o2, co2⟩ := O5.out.some_at (a * 3 + 2) (by omega)
    have f0 := O5.out.frozenAt (a * 3)
    have f1 := O5.out.frozenAt (a * 3 + 1)
    have f2 := O5.out.frozenAt (a * 3 + 2)
    have ha0 : (0 : Int) ≤ (a : Int) := by omega
    have hgne : g ≠ w6.heap.size := by omega
    go_wp2_with fail
    obtain ⟨q1, q2, q3⟩ := dq_store O5.out Hd.out ⟨top, HE.out⟩ E.out hg1 ha (Below.refl _ w6)
    exact bodyPost_ret (v := .tuple #[.slice (some ⟨g, 0, none⟩) ds.length cap5, .int .i64 tl]) (by simp [results, Tryz.results91, go_sem]) rfl ⟨_, cap5, ds.set a d', by rw [List.length_set], own_ext q1 (ext_alloc _ _), q2.ext (ext_alloc _ _), Ext.trans q3 (ext_alloc _ _)⟩
  · by_cases hnb : 0 < (qs.getD b []).length
    · have Hp : Hid (popQ qs a b = (qs.set b ((qs.getD b []).drop 1), (qs.getD b []).headD 0)) := Lib.hid (by unfold popQ; rw [if_neg hna, if_pos hnb])
      have hga : qs.getD a [] = qs[a]'(by have := Hlq.out; omega) := getD_of (by have := Hlq.out; omega)
      have hgb : qs.getD b [] = qs[b]'(by have := Hlq.out; omega) := getD_of (by have := Hlq.out; omega)
      have hxa : qs[a]'(by have := Hlq.out; omega) = [] := by rw [hga] at hna; exact List.eq_nil_of_length_eq_zero (by omega)
      obtain ⟨cb0, cb1, cb2⟩ := hc b hb
      have hdb := hd.2 b hb (by have := Hlq.out; omega)
      rw [hgb] at Hp hnb
      rw [Hp.out]
      dsimp only
      rw [hxa] at hda
      have HDa := Lib.hid hda
      have HDb := Lib.hid hdb
      generalize hxs : qs[b]'(by have := Hlq.out; omega) = xs at *
      generalize hdv : ds[a] = da at *
      generalize hdw : ds[b] = d at *
      clear hc hga hgb hda hdb hxa hxs hdv hdw Hp hd hna
      have KP := Lib.hid (fun W (hW : DqIs W da []) => c_PopTile0 da W hW)
      obtain ⟨tl, htl⟩ : ∃ tl, tl = xs.headD 0 := ⟨_, rfl⟩
      rw [← htl]
      obtain ⟨top, HDt⟩ := HDb.out
      have KS := Lib.hid (fun W (hW : DqAt W d top xs) => c_StealTile d top xs W hW hnb)
      rw [← htl] at KS
      have HDt := Lib.hid HDt
      clear HDb hnb htl
      go_enter Tryz.func91, Tryz.ntmps91
      have E := Lib.hid (Below.refl w.heap.size w)
      have Ca0 := Lib.hid ca0
      have Ca1 := Lib.hid ca1
      have Ca2 := Lib.hid ca2
      have Cb0 := Lib.hid cb0
      have Cb1 := Lib.hid cb1
      have Cb2 := Lib.hid cb2
      clear ca0 ca1 ca2 cb0 cb1 cb2
      go_wp2_with (at_builtin; refine stop_in ?_)
      refine stop_out ?_
      refine gen_list ?_
      intro w1 hW
      obtain ⟨hb, hT, hZ⟩ := new2 hW
      clear hW
      replace E := Lib.hid (Ext.trans E.out hb)
      clear hb
      have T := Lib.hid hT
      have lT := T.out.lt
      clear hT
      have Z := Lib.hid hZ
      have lZ := Z.out.lt
      clear hZ
      have O := Lib.hid (own_of_row (n := 0) (B := w.heap.size) (sz := 3) Z.out (by omega) rfl (by decide))
      clear Z lZ
      have S := Lib.hid ((H.out.ext dqR_stab E.out).src dqC_len (fun x us h => h) dqC_one (by decide))
      refine wpList_app (base := w.heap.size) ei_dq rfl (.tmp 10) (.tmp 11) rfl rfl O.out rfl S.out (by omega) E.out.size ?_
      intro v5 w5 hown hg hat
      refine stop_in ?_
      refine stop_out ?_
      obtain ⟨A5, cap5, hv5⟩ := own_form hown
      rw [Nat.zero_add] at hown hv5
      rw [List.nil_append] at hown
      subst hv5
      replace T := Lib.hid (T.out.grownNe O.out (by decide) hg)
      replace E := Lib.hid (own_below E.out O.out hg E.out.size)
      have O5 : Hid (Has w5 w.heap.size 180 3 (.slice A5 ds.length cap5) ds.length (ds.flatMap dqC)) := Lib.hid hown
      clear hown hg hat O S
      replace Hd := Lib.hid (Hd.out.ext E.out)
      replace HDa := Lib.hid (HDa.out.ext E.out)
      replace HDt := Lib.hid (HDt.out.ext E.out)
      replace Ca0 := Lib.hid (Cls.cell E.out Ca0.out)
      replace Ca1 := Lib.hid (Cls.cell E.out Ca1.out)
      replace Ca2 := Lib.hid (Cls.cell E.out Ca2.out)
      replace Cb0 := Lib.hid (Cls.cell E.out Cb0.out)
      replace Cb1 := Lib.hid (Cls.cell E.out Cb1.out)
      replace Cb2 := Lib.hid (Cls.cell E.out Cb2.out)
      have cCa0 := Ca0.out
      have cCa1 := Ca1.out
      have cCa2 := Ca2.out
      have cCb0 := Cb0.out
      have cCb1 := Cb1.out
      have cCb2 := Cb2.out
      have t0 := T.out.cell_of (i := 0) rfl
      have t1 := T.out.cell_of (i := 1) rfl
      have hal : (a : Int) < (ds.length : Int) := by omega
      have hbl : (b : Int) < (ds.length : Int) := by omega
      have ha0 : (0 : Int) ≤ (a : Int) := by omega
      have hb0 : (0 : Int) ≤ (b : Int) := by omega
      obtain ⟨g, rfl, hg1, hg2⟩ := own_at O5.out (by omega)
      have hE5 := E.out.size
      go_wp2_with fail
      clear cCa0 cCa1 cCa2 cCb0 cCb1 cCb2 t0 t1
      refine (KP.out _ HDa.out).mono ?_
      rintro e w6 ⟨rfl, hb⟩
      replace E := Lib.hid (Ext.trans E.out hb)
      replace T := Lib.hid (T.out.ext hb)
      have lT := T.out.lt
      replace O5 := Lib.hid (own_ext O5.out hb)
      replace Hd := Lib.hid (Hd.out.ext hb)
      replace HDa := Lib.hid (HDa.out.ext hb)
      replace HDt := Lib.hid (HDt.out.ext hb)
      replace Ca0 := Lib.hid (Cls.cell hb Ca0.out)
      replace Ca1 := Lib.hid (Cls.cell hb Ca1.out)
      replace Ca2 := Lib.hid (Cls.cell hb Ca2.out)
      replace Cb0 := Lib.hid (Cls.cell hb Cb0.out)
      replace Cb1 := Lib.hid (Cls.cell hb Cb1.out)
      replace Cb2 := Lib.hid (Cls.cell hb Cb2.out)
      clear hb
      have hE6 : g < w6.heap.size := by have := O5.out.lt g rfl; omega
      have cCa0 := Ca0.out
      have cCa1 := Ca1.out
      have cCa2 := Ca2.out
      have cCb0 := Cb0.out
      have cCb1 := Cb1.out
      have cCb2 := Cb2.out
      have t0 := T.out.cell_of (i := 0) rfl
      have t1 := T.out.cell_of (i := 1) rfl
      have hbA6 : bA < w6.heap.size := by omega
      go_wp2_with fail
      clear cCa0 cCa1 cCa2 cCb0 cCb1 cCb2 t0 t1
      first | refine gen_calls ?_ | refine gen_code ?_ | refine gen_list ?_
      intro w7 hW
      obtain ⟨hb, hR7⟩ := new1 hW
      clear hW
      replace E := Lib.hid (Ext.trans E.out hb)
      replace T := Lib.hid (T.out.ext hb)
      have lT := T.out.lt
      replace O5 := Lib.hid (own_ext O5.out hb)
      replace Hd := Lib.hid (Hd.out.ext hb)
      replace HDa := Lib.hid (HDa.out.ext hb)
      replace HDt := Lib.hid (HDt.out.ext hb)
      replace Ca0 := Lib.hid (Cls.cell hb Ca0.out)
      replace Ca1 := Lib.hid (Cls.cell hb Ca1.out)
      replace Ca2 := Lib.hid (Cls.cell hb Ca2.out)
      replace Cb0 := Lib.hid (Cls.cell hb Cb0.out)
      replace Cb1 := Lib.hid (Cls.cell hb Cb1.out)
      replace Cb2 := Lib.hid (Cls.cell hb Cb2.out)
      clear hb
      have R7 := Lib.hid hR7
      have lR7 := R7.out.lt
      clear hR7
      have cCa0 := Ca0.out
      have cCa1 := Ca1.out
      have cCa2 := Ca2.out
      have cCb0 := Cb0.out
      have cCb1 := Cb1.out
      have cCb2 := Cb2.out
      have t0 := T.out.cell_of (i := 0) rfl
      have t1 := T.out.cell_of (i := 1) rfl
      have hn7 : w.heap.size ≤ w6.heap.size := by have := E.out.size; have := lT; omega
      have hgne : g ≠ w6.heap.size := by omega
      go_wp2_with fail
      clear cCa0 cCa1 cCa2 cCb0 cCb1 cCb2 t0 t1
      refine (KS.out _ HDt.out).mono ?_
      rintro e w8 ⟨d', rfl, hd', hb⟩
      replace E := Lib.hid (Ext.trans E.out hb)
      replace T := Lib.hid (T.out.ext hb)
      have lT := T.out.lt
      replace O5 := Lib.hid (own_ext O5.out hb)
      replace Hd := Lib.hid (Hd.out.ext hb)
      replace HDa := Lib.hid (HDa.out.ext hb)
      replace HDt := Lib.hid (HDt.out.ext hb)
      replace Ca0 := Lib.hid (Cls.cell hb Ca0.out)
      replace Ca1 := Lib.hid (Cls.cell hb Ca1.out)
      replace Ca2 := Lib.hid (Cls.cell hb Ca2.out)
      replace Cb0 := Lib.hid (Cls.cell hb Cb0.out)
      replace Cb1 := Lib.hid (Cls.cell hb Cb1.out)
      replace Cb2 := Lib.hid (Cls.cell hb Cb2.out)
      replace R7 := Lib.hid (R7.out.ext hb)
      have lR7 := R7.out.lt
      clear hb
      have cCa0 := Ca0.out
      have cCa1 := Ca1.out
      have cCa2 := Ca2.out
      have cCb0 := Cb0.out
      have cCb1 := Cb1.out
      have cCb2 := Cb2.out
      have t0 := T.out.cell_of (i := 0) rfl
      have t1 := T.out.cell_of (i := 1) rfl
      have HE := Lib.hid hd'
      clear hd'
      obtain ⟨o0, co0⟩ := O5.out.some_at (b * 3) (by omega)
      obtain ⟨o1, co1⟩ := O5.out.some_at (b * 3 + 1) (by omega)
      obtain ⟨o2, co2⟩ := O5.out.some_at (b * 3 + 2) (by omega)
      have f0 := O5.out.frozenAt (b * 3)
      have f1 := O5.out.frozenAt (b * 3 + 1)
      have f2 := O5.out.frozenAt (b * 3 + 2)
      clear cCa0 cCa1 cCa2 cCb0 cCb1 cCb2 t0 t1
      have cCa0 := Ca0.out
      have cCa1 := Ca1.out
      have cCa2 := Ca2.out
      have cCb0 := Cb0.out
      have cCb1 := Cb1.out
      have cCb2 := Cb2.out
      have t0 := T.out.cell_of (i := 0) rfl
      have t1 := T.out.cell_of (i := 1) rfl
      have r0 := R7.out.cell_of (i := 0) rfl
      have zr0 := R7.out.frozen 0
      have r1 := R7.out.cell_of (i := 1) rfl
      have zr1 := R7.out.frozen 1
      have r2 := R7.out.cell_of (i := 2) rfl
      have zr2 := R7.out.frozen 2
      go_wp2_with fail
      obtain ⟨p1, p2, p3, p4⟩ := dq_box (.slice d'.1 16 d'.2.1) (.int .i64 d'.2.2.1) (.int .i64 d'.2.2.2) O5.out Hd.out E.out R7.out hn7 hgne
      obtain ⟨q1, q2, q3⟩ := dq_store p1 p2 (p3 d' _ ⟨top + 1, HE.out⟩) p4 hg1 hb (Below.refl _ _)
      exact bodyPost_ret (v := .tuple #[.slice (some ⟨g, 0, none⟩) ds.length cap5, .int .i64 tl]) (by simp [results, Tryz.results91, go_sem]) rfl ⟨_, cap5, ds.set b d', by rw [List.length_set], q1, q2, q3⟩
    · have Hp : Hid (popQ qs a b = (qs, -1)) := Lib.hid (by unfold popQ; rw [if_neg hna, if_neg hnb])
      have hga : qs.getD a [] = qs[a]'(by have := Hlq.out; omega) := getD_of (by have := Hlq.out; omega)
      have hgb : qs.getD b [] = qs[b]'(by have := Hlq.out; omega) := getD_of (by have := Hlq.out; omega)
      have hxa : qs[a]'(by have := Hlq.out; omega) = [] := by rw [hga] at hna; exact List.eq_nil_of_length_eq_zero (by omega)
      obtain ⟨cb0, cb1, cb2⟩ := hc b hb
      have hdb := hd.2 b hb (by have := Hlq.out; omega)
      rw [hgb] at hnb
      rw [Hp.out]
      dsimp only
      rw [hxa] at hda
      have HDa := Lib.hid hda
      have HDb := Lib.hid hdb
      generalize hxs : qs[b]'(by have := Hlq.out; omega) = xs at *
      generalize hdv : ds[a] = da at *
      generalize hdw : ds[b] = d at *
      clear hc hga hgb hda hdb hxa hxs hdv hdw Hp hd hna
      have KP := Lib.hid (fun W (hW : DqIs W da []) => c_PopTile0 da W hW)
      have hxs0 : xs = [] := List.eq_nil_of_length_eq_zero (by omega)
      subst hxs0
      have HDt := Lib.hid HDb.out
      have KS := Lib.hid (fun W (hW : DqIs W d []) => c_StealTile0 d W hW)
      clear HDb hnb
      go_enter Tryz.func91, Tryz.ntmps91
      have E := Lib.hid (Below.refl w.heap.size w)
      have Ca0 := Lib.hid ca0
      have Ca1 := Lib.hid ca1
      have Ca2 := Lib.hid ca2
      have Cb0 := Lib.hid cb0
      have Cb1 := Lib.hid cb1
      have Cb2 := Lib.hid cb2
      clear ca0 ca1 ca2 cb0 cb1 cb2
      go_wp2_with (at_builtin; refine stop_in ?_)
      refine stop_out ?_
      refine gen_list ?_
      intro w1 hW
      obtain ⟨hb, hT, hZ⟩ := new2 hW
      clear hW
      replace E := Lib.hid (Ext.trans E.out hb)
      clear hb
      have T := Lib.hid hT
      have lT := T.out.lt
      clear hT
      have Z := Lib.hid hZ
      have lZ := Z.out.lt
      clear hZ
      have O := Lib.hid (own_of_row (n := 0) (B := w.heap.size) (sz := 3) Z.out (by omega) rfl (by decide))
      clear Z lZ
      have S := Lib.hid ((H.out.ext dqR_stab E.out).src dqC_len (fun x us h => h) dqC_one (by decide))
      refine wpList_app (base := w.heap.size) ei_dq rfl (.tmp 10) (.tmp 11) rfl rfl O.out rfl S.out (by omega) E.out.size ?_
      intro v5 w5 hown hg hat
      refine stop_in ?_
      refine stop_out ?_
      obtain ⟨A5, cap5, hv5⟩ := own_form hown
      rw [Nat.zero_add] at hown hv5
      rw [List.nil_append] at hown
      subst hv5
      replace T := Lib.hid (T.out.grownNe O.out (by decide) hg)
      replace E := Lib.hid (own_below E.out O.out hg E.out.size)
      have O5 : Hid (Has w5 w.heap.size 180 3 (.slice A5 ds.length cap5) ds.length (ds.flatMap dqC)) := Lib.hid hown
      clear hown hg hat O S
      replace Hd := Lib.hid (Hd.out.ext E.out)
      replace HDa := Lib.hid (HDa.out.ext E.out)
      replace HDt := Lib.hid (HDt.out.ext E.out)
      replace Ca0 := Lib.hid (Cls.cell E.out Ca0.out)
      replace Ca1 := Lib.hid (Cls.cell E.out Ca1.out)
      replace Ca2 := Lib.hid (Cls.cell E.out Ca2.out)
      replace Cb0 := Lib.hid (Cls.cell E.out Cb0.out)
      replace Cb1 := Lib.hid (Cls.cell E.out Cb1.out)
      replace Cb2 := Lib.hid (Cls.cell E.out Cb2.out)
      have cCa0 := Ca0.out
      have cCa1 := Ca1.out
      have cCa2 := Ca2.out
      have cCb0 := Cb0.out
      have cCb1 := Cb1.out
      have cCb2 := Cb2.out
      have t0 := T.out.cell_of (i := 0) rfl
      have t1 := T.out.cell_of (i := 1) rfl
      have hal : (a : Int) < (ds.length : Int) := by omega
      have hbl : (b : Int) < (ds.length : Int) := by omega
      have ha0 : (0 : Int) ≤ (a : Int) := by omega
      have hb0 : (0 : Int) ≤ (b : Int) := by omega
      obtain ⟨g, rfl, hg1, hg2⟩ := own_at O5.out (by omega)
      have hE5 := E.out.size
      go_wp2_with fail
      clear cCa0 cCa1 cCa2 cCb0 cCb1 cCb2 t0 t1
      refine (KP.out _ HDa.out).mono ?_
      rintro e w6 ⟨rfl, hb⟩
      replace E := Lib.hid (Ext.trans E.out hb)
      replace T := Lib.hid (T.out.ext hb)
      have lT := T.out.lt
      replace O5 := Lib.hid (own_ext O5.out hb)
      replace Hd := Lib.hid (Hd.out.ext hb)
      replace HDa := Lib.hid (HDa.out.ext hb)
      replace HDt := Lib.hid (HDt.out.ext hb)
      replace Ca0 := Lib.hid (Cls.cell hb Ca0.out)
      replace Ca1 := Lib.hid (Cls.cell hb Ca1.out)
      replace Ca2 := Lib.hid (Cls.cell hb Ca2.out)
      replace Cb0 := Lib.hid (Cls.cell hb Cb0.out)
      replace Cb1 := Lib.hid (Cls.cell hb Cb1.out)
      replace Cb2 := Lib.hid (Cls.cell hb Cb2.out)
      clear hb
      have hE6 : g < w6.heap.size := by have := O5.out.lt g rfl; omega
      have cCa0 := Ca0.out
      have cCa1 := Ca1.out
      have cCa2 := Ca2.out
      have cCb0 := Cb0.out
      have cCb1 := Cb1.out
      have cCb2 := Cb2.out
      have t0 := T.out.cell_of (i := 0) rfl
      have t1 := T.out.cell_of (i := 1) rfl
      have hbA6 : bA < w6.heap.size := by omega
      go_wp2_with fail
      clear cCa0 cCa1 cCa2 cCb0 cCb1 cCb2 t0 t1
      first | refine gen_calls ?_ | refine gen_code ?_ | refine gen_list ?_
      intro w7 hW
      obtain ⟨hb, hR7⟩ := new1 hW
      clear hW
      replace E := Lib.hid (Ext.trans E.out hb)
      replace T := Lib.hid (T.out.ext hb)
      have lT := T.out.lt
      replace O5 := Lib.hid (own_ext O5.out hb)
      replace Hd := Lib.hid (Hd.out.ext hb)
      replace HDa := Lib.hid (HDa.out.ext hb)
      replace HDt := Lib.hid (HDt.out.ext hb)
      replace Ca0 := Lib.hid (Cls.cell hb Ca0.out)
      replace Ca1 := Lib.hid (Cls.cell hb Ca1.out)
      replace Ca2 := Lib.hid (Cls.cell hb Ca2.out)
      replace Cb0 := Lib.hid (Cls.cell hb Cb0.out)
      replace Cb1 := Lib.hid (Cls.cell hb Cb1.out)
      replace Cb2 := Lib.hid (Cls.cell hb Cb2.out)
      clear hb
      have R7 := Lib.hid hR7
      have lR7 := R7.out.lt
      clear hR7
      have cCa0 := Ca0.out
      have cCa1 := Ca1.out
      have cCa2 := Ca2.out
      have cCb0 := Cb0.out
      have cCb1 := Cb1.out
      have cCb2 := Cb2.out
      have t0 := T.out.cell_of (i := 0) rfl
      have t1 := T.out.cell_of (i := 1) rfl
      have hn7 : w.heap.size ≤ w6.heap.size := by have := E.out.size; have := lT; omega
      have hgne : g ≠ w6.heap.size := by omega
      go_wp2_with fail
      clear cCa0 cCa1 cCa2 cCb0 cCb1 cCb2 t0 t1
      refine (KS.out _ HDt.out).mono ?_
      rintro e w8 ⟨rfl, hb⟩
      replace E := Lib.hid (Ext.trans E.out hb)
      replace T := Lib.hid (T.out.ext hb)
      have lT := T.out.lt
      replace O5 := Lib.hid (own_ext O5.out hb)
      replace Hd := Lib.hid (Hd.out.ext hb)
      replace HDa := Lib.hid (HDa.out.ext hb)
      replace HDt := Lib.hid (HDt.out.ext hb)
      replace Ca0 := Lib.hid (Cls.cell hb Ca0.out)
      replace Ca1 := Lib.hid (Cls.cell hb Ca1.out)
      replace Ca2 := Lib.hid (Cls.cell hb Ca2.out)
      replace Cb0 := Lib.hid (Cls.cell hb Cb0.out)
      replace Cb1 := Lib.hid (Cls.cell hb Cb1.out)
      replace Cb2 := Lib.hid (Cls.cell hb Cb2.out)
      replace R7 := Lib.hid (R7.out.ext hb)
      have lR7 := R7.out.lt
      clear hb
      have cCa0 := Ca0.out
      have cCa1 := Ca1.out
      have cCa2 := Ca2.out
      have cCb0 := Cb0.out
      have cCb1 := Cb1.out
      have cCb2 := Cb2.out
      have t0 := T.out.cell_of (i := 0) rfl
      have t1 := T.out.cell_of (i := 1) rfl
      clear cCa0 cCa1 cCa2 cCb0 cCb1 cCb2 t0 t1
      have cCa0 := Ca0.out
      have cCa1 := Ca1.out
      have cCa2 := Ca2.out
      have cCb0 := Cb0.out
      have cCb1 := Cb1.out
      have cCb2 := Cb2.out
      have t0 := T.out.cell_of (i := 0) rfl
      have t1 := T.out.cell_of (i := 1) rfl
      have r0 := R7.out.cell_of (i := 0) rfl
      have zr0 := R7.out.frozen 0
      have r1 := R7.out.cell_of (i := 1) rfl
      have zr1 := R7.out.frozen 1
      have r2 := R7.out.cell_of (i := 2) rfl
      have zr2 := R7.out.frozen 2
      go_wp2_with fail
      obtain ⟨p1, p2, p3, p4⟩ := dq_box (.slice none 0 0) (.int .i64 0) (.int .i64 0) O5.out Hd.out E.out R7.out hn7 hgne
      exact bodyPost_ret (v := .tuple #[.slice (some ⟨g, 0, none⟩) ds.length cap5, .int .i64 (-1)]) (by simp [results, Tryz.results91, go_sem]) rfl ⟨_, cap5, ds, rfl, p1, p2, p4⟩
end Go.Proofs.YtagmnbphbakikaaGreat
namespace Go.Proofs.YtagmnbphbakikaaGreat
open Go Go.RowKit Reg
attribute [local go_sem] calmAt calmUpon
theorem qOf_low {W k : Nat} (h : k < W) : qOf W k k = [] := by
  unfold qOf
  rw [List.map_eq_nil_iff, List.filter_eq_nil_iff]
  intro t ht
  have := List.mem_range.1 ht
  rw [Nat.mod_eq_of_lt (by omega)]
  simp; omega
/-- Turns that are among the workers. -/
def trB (W : Int) (t : Pt) : Bool := inB t.1 0 (W - 1) && inB t.2 0 (W - 1)
def wvB (W : Int) (ts : List Pt) : Bool := inB W 1 4 && decide (ts.length ≤ 30) && ts.all (trB W)
def workR (n W : Int) (ts : List Pt) : List Pt := if inB n 0 16 && wvB W ts then workL W.toNat n.toNat ts else []
theorem wvB_sc {W : Int} {ts : List Pt} (h : wvB W ts = true) : (1 ≤ W ∧ W ≤ 4) ∧ ts.length ≤ 30 ∧ ScOk W.toNat ts := by
  unfold wvB at h
  simp only [Bool.and_eq_true, decide_eq_true_eq, List.all_eq_true] at h
  obtain ⟨⟨h1, h2⟩, h3⟩ := h
  have h1 := inB_iff.1 h1
  refine ⟨h1, h2, fun t ht => ?_⟩
  have h4 := h3 t ht
  unfold trB at h4
  simp only [Bool.and_eq_true] at h4
  have h5 := inB_iff.1 h4.1
  have h6 := inB_iff.1 h4.2
  omega
theorem dq_row3 {w8 : World} {n7 t : Nat} {d : Dq} {xs : List Int} {rs : List Value} (u0 u1 u2 : Value) (h : DqAt w8 d t xs) (hR : Row w8 n7 180 rs) : DqAt (((w8.setCell ⟨n7, 0, none⟩ u0).setCell ⟨n7, 1, none⟩ u1).setCell ⟨n7, 2, none⟩ u2) d t xs := by
  obtain ⟨h1, h2, h3, h4, h5⟩ := h
  have G : w8.grownBy (((w8.setCell ⟨n7, 0, none⟩ u0).setCell ⟨n7, 1, none⟩ u1).setCell ⟨n7, 2, none⟩ u2) (some n7) := only_set (only_set (only_set (only_refl w8 _) 0 _) 1 _) 2 _
  exact ⟨h1, h2, h3, h4.kept G (.inr fun hh => ne_block hR h4 (Ne.symm NE_DI) hh.symm), h5⟩
theorem ds_row3 {w8 : World} {n7 : Nat} {ds : List Dq} {qs : List (List Int)} {rs : List Value} (u0 u1 u2 : Value) (h : DsAre w8 ds qs) (hR : Row w8 n7 180 rs) : DsAre (((w8.setCell ⟨n7, 0, none⟩ u0).setCell ⟨n7, 1, none⟩ u1).setCell ⟨n7, 2, none⟩ u2) ds qs :=
  ⟨h.1, fun i h1 h2 => by obtain ⟨t, h⟩ := h.2 i h1 h2; exact ⟨t, dq_row3 u0 u1 u2 h hR⟩⟩
theorem has_row3 {w8 : World} {n7 B e sz n : Nat} {v : Value} {cs : List Value} (u0 u1 u2 : Value) (h : Has w8 B e sz v n cs) (hg : ∀ g, v.ownBlock = some g → g < n7) : Has (((w8.setCell ⟨n7, 0, none⟩ u0).setCell ⟨n7, 1, none⟩ u1).setCell ⟨n7, 2, none⟩ u2) B e sz v n cs := by
  have G : w8.grownBy (((w8.setCell ⟨n7, 0, none⟩ u0).setCell ⟨n7, 1, none⟩ u1).setCell ⟨n7, 2, none⟩ u2) (some n7) := only_set (only_set (only_set (only_refl w8 _) 0 _) 1 _) 2 _
  refine h.kept G ?_
  cases hv : v.ownBlock with
  | none => exact .inl rfl
  | some g => exact .inr fun hh => by injection hh with hh; have := hg g hv; omega
set_option maxRecDepth 100000 in
set_option maxHeartbeats 4000000 in
theorem c_start (n W : Nat) (w : World) (hn : n ≤ 16) (hW : W ≤ 4) :
    Calls Tryz.prog 90 #[.int .i64 n, .int .i64 W] w fun e w' => ∃ A cap ds, e = .returned (.slice A ds.length cap) ∧ Has w' w.heap.size 180 3 (.slice A ds.length cap) ds.length (ds.flatMap dqC) ∧ DsAre w' ds (qs0 W n) ∧ Below w.heap.size w w' := by
  have E := Lib.hid (Below.refl w.heap.size w)
  go_enter Tryz.func90, Tryz.ntmps90
  go_wp2_with fail
  first | refine gen_calls ?_ | refine gen_code ?_ | refine gen_list ?_
  intro w0 hW
  obtain ⟨hb, hR⟩ := new1 hW
  clear hW
  replace E := Lib.hid (Ext.trans E.out hb)
  clear hb
  have R := Lib.hid hR
  have lR := R.out.lt
  clear hR
  have O := Lib.hid (own_of_row (n := 0) (B := w.heap.size) (sz := 3) R.out (Nat.le_refl _) rfl (by decide))
  clear R lR
  go_wp2_with fail
  go_loopw [5, 6, 7, 8] (fun o r _ _ wr => ∃ (k : Nat) (A1 : Option Addr) (cap1 : Nat) (ds : List Dq), k ≤ W ∧ r = .int .i64 k ∧ o = .slice A1 ds.length cap1 ∧ Has wr w.heap.size 180 3 (.slice A1 ds.length cap1) ds.length (ds.flatMap dqC) ∧ DsAre wr ds ((List.range k).map (qOf W n)) ∧ Below w.heap.size w wr) (fun _ r _ _ _ => W - (intOf r).toNat)
  case atStart => exact ⟨0, _, 0, [], Nat.zero_le _, rfl, rfl, O.out, DsAre.nil _, E.out⟩
  case round =>
    obtain ⟨k, A1, cap1, ds, hk, rfl, rfl, hor, hda, hbw⟩ := hrel
    clear O E
    have O := Lib.hid hor
    have E := Lib.hid hbw
    have Ds := Lib.hid hda
    have hdl : ds.length ≤ 4 := by have := hda.1; simp at this; omega
    have hzr : w.heap.size ≤ wr.heap.size := hbw.size
    clear hor hbw hda
    by_cases hlt : k < W
    · have hltI : decide ((k : Int) < (W : Int)) = true := by simp; omega
      go_wp2_with fail
      refine (c_NewDeque _).mono ?_
      rintro e w1 ⟨d, rfl, hd, hb⟩
      replace E := Lib.hid (Ext.trans E.out hb)
      replace O := Lib.hid (own_ext O.out hb)
      replace Ds := Lib.hid (Ds.out.ext hb)
      clear hb
      have HD := Lib.hid hd
      clear hd
      have hw1 : w.heap.size ≤ w1.heap.size := E.out.size
      have Og := Lib.hid (fun g hg => (O.out.lt g hg).2)
      go_wp2_with fail
      first | refine gen_calls ?_ | refine gen_code ?_ | refine gen_list ?_
      intro w2 hW
      obtain ⟨hb, hR⟩ := new1 hW
      clear hW
      replace E := Lib.hid (Ext.trans E.out hb)
      replace O := Lib.hid (own_ext O.out hb)
      replace Ds := Lib.hid (Ds.out.ext hb)
      replace HD := Lib.hid (HD.out.ext hb)
      clear hb
      have R := Lib.hid hR
      have lR := R.out.lt
      clear hR
      obtain ⟨wo, hwo⟩ : ∃ wo : World, wo = w2 := ⟨_, rfl⟩
      subst hwo
      have hwk : W - k < 100 := by omega
      go_wp2_with fail
      go_loopw [8] (fun t wr => ∃ (j : Nat) (d : Dq) (xs : List Int), k ≤ j ∧ j < n + W ∧ j % W = k ∧ t = .int .i64 j ∧ xs = qOf W j k ∧ Row wr w1.heap.size 180 (dqC d) ∧ DqAt wr d 0 xs ∧ Has wr w.heap.size 180 3 (.slice A1 ds.length cap1) ds.length (ds.flatMap dqC) ∧ DsAre wr ds ((List.range k).map (qOf W n)) ∧ Below w.heap.size w wr) (fun t _ => n - (intOf t).toNat)
      case atStart => exact ⟨k, d, [], Nat.le_refl _, by omega, Nat.mod_eq_of_lt hlt, rfl, (qOf_low hlt).symm, R.out, HD.out, O.out, Ds.out, E.out⟩
      case round =>
        obtain ⟨j, d, xs, hkj, hjn, hjm, rfl, hxs, hr, hd, hor, hda, hbw⟩ := hrel
        clear O E Ds HD R
        have R := Lib.hid hr
        have HD := Lib.hid hd
        have O := Lib.hid hor
        have E := Lib.hid hbw
        have Ds := Lib.hid hda
        have hxl : xs.length ≤ j := by rw [hxs]; exact qOf_len _ _ _
        have Hxs := Lib.hid hxs
        have Hjm := Lib.hid hjm
        have hzr2 : w.heap.size ≤ wr.heap.size := hbw.size
        have lR := R.out.lt
        clear hor hbw hda hr hd hxs hjm
        by_cases hlj : j < n
        · have hljI : decide ((j : Int) < (n : Int)) = true := by simp; omega
          have Hn : Hid (xs ++ [(j : Int)] = qOf W (j + W) k) := Lib.hid (by rw [Hxs.out, qOf_next hlt Hjm.out])
          have KP := Lib.hid (fun Wd hW => c_PushTile d 0 xs (j : Int) Wd hW (by omega) (by omega))
          have r0 := R.out.cell_of (i := 0) rfl
          have zr0 := R.out.frozen 0
          have r1 := R.out.cell_of (i := 1) rfl
          have zr1 := R.out.frozen 1
          have r2 := R.out.cell_of (i := 2) rfl
          have zr2 := R.out.frozen 2
          go_wp2_with fail
          clear r0 zr0 r1 zr1 r2 zr2
          refine (KP.out _ HD.out).mono ?_
          rintro e w3 ⟨d', rfl, hd', hb⟩
          replace R := Lib.hid (R.out.ext hb)
          have lR := R.out.lt
          replace HD := Lib.hid (HD.out.ext hb)
          replace O := Lib.hid (own_ext O.out hb)
          replace Ds := Lib.hid (Ds.out.ext hb)
          replace E := Lib.hid (Ext.trans E.out hb)
          clear hb
          have r0 := R.out.cell_of (i := 0) rfl
          have zr0 := R.out.frozen 0
          have r1 := R.out.cell_of (i := 1) rfl
          have zr1 := R.out.frozen 1
          have r2 := R.out.cell_of (i := 2) rfl
          have zr2 := R.out.frozen 2
          replace HD := Lib.hid hd'
          clear hd'
          go_wp2
          go_roundw
          case rel => exact ⟨j + W, d', _, by omega, by omega, by rw [Nat.add_mod_right]; exact Hjm.out, by go_num, Hn.out, ((R.out.set_ 0 _).set_ 1 _).set_ 2 _, dq_row3 _ _ _ HD.out R.out, has_row3 _ _ _ O.out Og.out, ds_row3 _ _ _ Ds.out R.out, ((E.out.setCell (by exact hw1) _).setCell (by exact hw1) _).setCell (by exact hw1) _⟩
          case measure => simp [intOf]; omega
        · have hljI : decide ((j : Int) < (n : Int)) = false := by simp; omega
          have Hf : Hid ((List.range k).map (qOf W n) ++ [xs] = (List.range (k + 1)).map (qOf W n)) := Lib.hid (by
            rw [List.range_succ, List.map_append, List.map_cons, List.map_nil, Hxs.out, qOf_gap Hjm.out (by omega) hjn])
          have r0 := R.out.cell_of (i := 0) rfl
          have r1 := R.out.cell_of (i := 1) rfl
          have r2 := R.out.cell_of (i := 2) rfl
          go_wp2_with (at_builtin; refine wpList_app (base := w.heap.size) ei_dq rfl (.tmp 29) (.tmp 31) rfl rfl (own_ext O.out (ext_alloc _ _)) rfl (src_new _ _ [_, _, _] (m := 1) rfl (by intro u hu; simp only [List.mem_cons, List.not_mem_nil, or_false] at hu; rcases hu with rfl | rfl | rfl <;> rfl)) (by omega) (by simp; omega) ?_; intro ve w5 hown hg hat; refine stop_in ?_)
          refine stop_out ?_
          obtain ⟨A3, cap3, hve⟩ := own_form hown
          replace Ds := Lib.hid (((Ds.out.ext (ext_alloc _ _)).grown (own_ext O.out (ext_alloc _ _)) NE_DI hg).snoc ⟨0, (HD.out.ext (ext_alloc _ _)).grown (own_ext O.out (ext_alloc _ _)) NE_DI hg⟩)
          clear r0 r1 r2
          replace E := Lib.hid (Below.grown (Ext.trans E.out (ext_alloc _ _)) hg (by simp; omega) (fun k hk => by have := (O.out.lt k hk).1; omega))
          have heq : ds ++ [d] = (ds ++ [d]) := rfl
          replace O : Hid (Has w5 w.heap.size 180 3 (.slice A3 ((ds ++ [d])).length cap3) ((ds ++ [d])).length (((ds ++ [d])).flatMap dqC)) := Lib.hid (by
            have q := hown
            rw [hve] at q
            rw [← heq, List.flatMap_append, List.length_append]
            exact q)
          have hvf : ve = .slice A3 ((ds ++ [d])).length cap3 := by rw [hve, ← heq, List.length_append]; rfl
          clear hve
          clear hown hg hat heq
          subst hvf
          rw [Hf.out] at Ds
          go_wp2
          go_roundw
          case rel => exact ⟨k + 1, A3, cap3, _, by omega, by go_num, rfl, O.out, Ds.out, E.out⟩
          case measure => simp [intOf]; omega
    · have hltI : decide ((k : Int) < (W : Int)) = false := by simp; omega
      obtain rfl : k = W := by omega
      go_wp2
      go_ret
      exact ⟨A1, cap1, ds, rfl, O.out, Ds.out, E.out⟩
end Go.Proofs.YtagmnbphbakikaaGreat
namespace Go.Proofs.YtagmnbphbakikaaGreat
open Go Go.RowKit Reg
attribute [local go_sem] calmAt calmUpon
set_option maxHeartbeats 2000000 in
theorem c_validTurns (W : Int) (A : Option Addr) (cap : Nat) (ts : List Pt) (w : World) (h : Pts w A ts) (hl : ts.length ≤ 4611686018427387904) :
    Calls Tryz.prog 51 #[.int .i64 W, .slice A ts.length cap] w fun e w' => e = .returned (.bool (wvB W ts)) ∧ w = w' := by
  by_cases hW : inB W 1 4 = true
  · have hW2 := inB_iff.1 hW
    have HW := Lib.hid hW
    have H := Lib.hid h
    obtain ⟨V, hV⟩ : ∃ V, wvB W ts = V := ⟨_, rfl⟩
    rw [hV]
    have HV : Hid (V = (decide (ts.length ≤ 30) && ts.all (trB W))) := Lib.hid (by rw [← hV]; unfold wvB; rw [hW]; rfl)
    have hwr : W - 1 ≤ 3 ∧ 0 ≤ W - 1 := by omega
    clear h hV hW
    go_enter Tryz.func51, Tryz.ntmps51
    go_wp2_with fail
    go_loopw [5] (fun i wr => ∃ k : Nat, k ≤ ts.length ∧ i = .int .i64 k ∧ (ts.take k).all (trB W) = true ∧ wr = w) (fun i _ => ts.length - (intOf i).toNat)
    case atStart => exact ⟨0, Nat.zero_le _, rfl, by simp, rfl⟩
    case round =>
      obtain ⟨k, hk, rfl, hal, rfl⟩ := hrel
      have Hal := Lib.hid hal
      clear hal
      by_cases hlt : k < ts.length
      · obtain ⟨b, off, hA, _hb, hc⟩ := H.out.pts (by omega)
        obtain ⟨cx, cy⟩ := hc k hlt
        have hkd : decide ((k : Int) < (ts.length : Int)) = true := by simp; omega
        have hkI : (k : Int) < (ts.length : Int) := by omega
        have Hv := Lib.hid (fun (hv : trB W ts[k] = true) => all_take_succ Hal.out hlt hv)
        have Hv2 := Lib.hid (fun (hv : trB W ts[k] = false) => all_false_of hlt hv)
        clear hc
        generalize ts[k] = t at *
        obtain ⟨x, y⟩ := t
        dsimp only at cx cy
        subst hA
        obtain ⟨d1, hd1⟩ : ∃ d, inB x 0 (W - 1) = d := ⟨_, rfl⟩
        obtain ⟨d2, hd2⟩ : ∃ d, inB y 0 (W - 1) = d := ⟨_, rfl⟩
        have Ht : Hid (trB W (x, y) = (d1 && d2)) := Lib.hid (by unfold trB; rw [hd1, hd2])
        have Hd1 := Lib.hid hd1
        have Hd2 := Lib.hid hd2
        clear hd1 hd2
        go_wp2_with fail
        refine (c_inRange x 0 (W - 1) _).mono ?_
        rw [Hd1.out]
        rintro e w' ⟨rfl, rfl⟩
        cases d1
        · have Hf : Hid (V = false) := Lib.hid (by rw [HV.out, Hv2.out (by rw [Ht.out]; rfl)]; simp)
          go_wp2
          go_ret
          exact ⟨ret_bb Hf.out.symm, rfl⟩
        · go_wp2_with fail
          refine (c_inRange y 0 (W - 1) _).mono ?_
          rw [Hd2.out]
          rintro e w' ⟨rfl, rfl⟩
          cases d2
          · have Hf : Hid (V = false) := Lib.hid (by rw [HV.out, Hv2.out (by rw [Ht.out]; rfl)]; simp)
            go_wp2
            go_ret
            exact ⟨ret_bb Hf.out.symm, rfl⟩
          · have Hn := Lib.hid (Hv.out (by rw [Ht.out]; rfl))
            go_wp2
            go_roundw
            case rel => exact ⟨k + 1, by omega, by go_num, Hn.out, trivial⟩
            case measure => simp [intOf]; omega
      · have hkd : decide ((k : Int) < (ts.length : Int)) = false := by simp; omega
        have hk' : k = ts.length := by omega
        have Hf : Hid (V = decide (ts.length ≤ 30)) := Lib.hid (by rw [HV.out, all_of_take Hal.out hk']; simp)
        clear hk'
        go_wp2_with fail
        refine (c_inRange W 1 4 _).mono ?_
        rw [HW.out]
        rintro e w' ⟨rfl, rfl⟩
        by_cases h30 : ts.length ≤ 30
        · have h30' : ((ts.length : Nat) : Int) ≤ 30 := by omega
          go_wp2
          go_ret
          exact ⟨ret_bb (by rw [Hf.out]; simp; omega), rfl⟩
        · have h30' : ¬ ((ts.length : Nat) : Int) ≤ 30 := by omega
          go_wp2
          go_ret
          exact ⟨ret_bb (by rw [Hf.out]; simp; omega), rfl⟩
  · have hV : wvB W ts = false := by unfold wvB; rw [Bool.not_eq_true] at hW; rw [hW]; rfl
    rw [hV]
    rw [Bool.not_eq_true] at hW
    have HW := Lib.hid hW
    have H := Lib.hid h
    clear h hV hW
    go_enter Tryz.func51, Tryz.ntmps51
    go_wp2_with fail
    go_loopw [5] (fun i wr => ∃ k : Nat, k ≤ ts.length ∧ i = .int .i64 k ∧ wr = w) (fun i _ => ts.length - (intOf i).toNat)
    case atStart => exact ⟨0, Nat.zero_le _, rfl, rfl⟩
    case round =>
      obtain ⟨k, hk, rfl, rfl⟩ := hrel
      by_cases hlt : k < ts.length
      · obtain ⟨b, off, hA, _hb, hc⟩ := H.out.pts (by omega)
        obtain ⟨cx, cy⟩ := hc k hlt
        have hkd : decide ((k : Int) < (ts.length : Int)) = true := by simp; omega
        have hkI : (k : Int) < (ts.length : Int) := by omega
        clear hc
        generalize ts[k] = t at *
        obtain ⟨x, y⟩ := t
        dsimp only at cx cy
        subst hA
        obtain ⟨W1, hW1⟩ : ∃ W1, IntKind.i64.wrap (W - 1) = W1 := ⟨_, rfl⟩
        obtain ⟨d1, hd1⟩ : ∃ d, inB x 0 W1 = d := ⟨_, rfl⟩
        obtain ⟨d2, hd2⟩ : ∃ d, inB y 0 W1 = d := ⟨_, rfl⟩
        have Hd1 := Lib.hid hd1
        have Hd2 := Lib.hid hd2
        clear hd1 hd2
        go_wp2_with fail
        refine (c_inRange x 0 W1 _).mono ?_
        rw [Hd1.out]
        rintro e w' ⟨rfl, rfl⟩
        cases d1
        · go_wp2
          go_ret
          exact ⟨rfl, rfl⟩
        · go_wp2_with fail
          refine (c_inRange y 0 W1 _).mono ?_
          rw [Hd2.out]
          rintro e w' ⟨rfl, rfl⟩
          cases d2
          · go_wp2
            go_ret
            exact ⟨rfl, rfl⟩
          · go_wp2
            go_roundw
            case rel => exact ⟨k + 1, by omega, by go_num, trivial⟩
            case measure => simp [intOf]; omega
      · have hkd : decide ((k : Int) < (ts.length : Int)) = false := by simp; omega
        go_wp2_with fail
        refine (c_inRange W 1 4 _).mono ?_
        rw [HW.out]
        rintro e w' ⟨rfl, rfl⟩
        go_wp2
        go_ret
        exact ⟨rfl, rfl⟩
/-- Tiles drawn, returned in a row of their own. -/
def RetDn (w : World) (L : List Pt) (e : Ending) (w' : World) : Prop := ∃ A cap, e = .returned (.slice A L.length cap) ∧ Has w' w.heap.size 99 2 (.slice A L.length cap) L.length (L.flatMap ptC) ∧ Below w.heap.size w w'
theorem RetDn.none {w w' : World} {L : List Pt} (h : L = []) (hb : Below w.heap.size w w') : RetDn w L (.returned (.slice Option.none 0 0)) w' := by subst h; exact ⟨Option.none, 0, rfl, own_nil _ _ _ _, hb⟩
theorem has_row2 {w8 : World} {n7 B e e2 sz n : Nat} {v : Value} {cs rs : List Value} (u0 u1 : Value) (h : Has w8 B e sz v n cs) (hR : Row w8 n7 e2 rs) (he : e2 ≠ e) : Has ((w8.setCell ⟨n7, 0, none⟩ u0).setCell ⟨n7, 1, none⟩ u1) B e sz v n cs :=
  h.kept (only_set (only_set (only_refl w8 _) 0 _) 1 _) (.inr fun hh => ne_block hR h (Ne.symm he) hh.symm)
theorem ds_row2 {w8 : World} {n7 e2 : Nat} {ds : List Dq} {qs : List (List Int)} {rs : List Value} (u0 u1 : Value) (h : DsAre w8 ds qs) (hR : Row w8 n7 e2 rs) (he : e2 ≠ 3) : DsAre ((w8.setCell ⟨n7, 0, none⟩ u0).setCell ⟨n7, 1, none⟩ u1) ds qs :=
  ⟨h.1, fun i h1 h2 => by
    obtain ⟨t, h1, h2, h3, h4, h5⟩ := h.2 i h1 h2
    exact ⟨t, h1, h2, h3, has_row2 u0 u1 h4 hR he, h5⟩⟩
theorem NE_TD : (101 : TypeId) ≠ 180 := by decide
theorem NE_TI : (101 : TypeId) ≠ 3 := by decide
theorem NE_TN : (101 : TypeId) ≠ 99 := by decide
theorem NE_ND : (99 : TypeId) ≠ 180 := by decide
theorem NE_NI : (99 : TypeId) ≠ 3 := by decide
set_option maxRecDepth 100000 in
set_option maxHeartbeats 4000000 in
theorem c_run (n W : Nat) (A : Option Addr) (cap : Nat) (sc : List Pt) (w : World) (h : Pts w A sc) (hn : n ≤ 16) (h1 : 0 < W) (h4 : W ≤ 4) (hl : sc.length ≤ 30) (hs : ScOk W sc) :
    Calls Tryz.prog 53 #[.int .i64 n, .int .i64 W, .slice A sc.length cap] w fun e w' => RetDn w (workL W n sc) e w' := by
  have H := Lib.hid h
  have h0 := Lib.hid h
  have Hs := Lib.hid hs
  have Hpop := Lib.hid (fun i => (wSt_perm (n := n) h1 hs i))
  have E := Lib.hid (Below.refl w.heap.size w)
  clear h hs
  go_enter Tryz.func53, Tryz.ntmps53
  go_wp2_with fail
  first | refine gen_calls ?_ | refine gen_code ?_ | refine gen_list ?_
  intro w0 hW
  obtain ⟨hb, hR⟩ := new1 hW
  clear hW
  replace E := Lib.hid (Ext.trans E.out hb)
  replace H := Lib.hid (H.out.ext ptR_stab hb)
  clear hb
  have R := Lib.hid hR
  have lR := R.out.lt
  clear hR
  have O := Lib.hid (own_of_row (n := 0) (B := w.heap.size) (sz := 2) R.out (Nat.le_refl _) rfl (by decide))
  clear R lR
  have hz0 : w.heap.size ≤ w0.heap.size := E.out.size
  go_wp2_with fail
  refine (c_start n W _ hn h4).mono ?_
  rintro e w1 ⟨A2, cap2, ds, rfl, hod, hds, hb⟩
  replace E := Lib.hid (Ext.trans E.out hb)
  replace H := Lib.hid (H.out.ext ptR_stab hb)
  replace O := Lib.hid (own_ext O.out hb)
  clear hb
  have D := Lib.hid (hod.rebase hz0)
  have Ds := Lib.hid hds
  clear hod hds
  replace H := h0
  clear h0
  go_wp2_with fail
  go_loopw [7, 8, 9, 10, 11, 12] (fun o l i _ _ _ wr => ∃ (k : Nat) (A1 : Option Addr) (cap1 : Nat) (out : List Pt) (A2 : Option Addr) (cap2 : Nat) (ds : List Dq), k ≤ 94 ∧ i = .int .i64 k ∧ o = .slice A1 out.length cap1 ∧ l = .slice A2 ds.length cap2 ∧ out = (wSt W n sc k).2 ∧ Has wr w.heap.size 99 2 (.slice A1 out.length cap1) out.length (out.flatMap ptC) ∧ Has wr w.heap.size 180 3 (.slice A2 ds.length cap2) ds.length (ds.flatMap dqC) ∧ DsAre wr ds (wSt W n sc k).1 ∧ Below w.heap.size w wr) (fun _ _ i _ _ _ _ => 94 - (intOf i).toNat)
  case atStart => exact ⟨0, _, 0, [], A2, cap2, ds, Nat.zero_le _, rfl, rfl, rfl, rfl, O.out, D.out, Ds.out, E.out⟩
  case round =>
    clear O D Ds E
    obtain ⟨k, A1, cap1, out, A2, cap2, ds, hk, rfl, rfl, rfl, hout, ho, hd, hds, hbw⟩ := hrel
    have O := Lib.hid ho
    have D := Lib.hid hd
    have Ds := Lib.hid hds
    have E := Lib.hid hbw
    have hzr : w.heap.size ≤ wr.heap.size := hbw.size
    have hol : out.length ≤ n := by rw [hout]; exact wSt_le h1 Hs.out k
    have Hend := Lib.hid (fun (h : ¬ out.length < n) => wSt_end h1 h4 hn Hs.out hl hk (by rw [← hout]; exact h))
    have hmore := fun (h : out.length < n) => wSt_more (i := k) h1 h4 hn Hs.out hl (by rw [← hout]; exact h)
    have hdl : ds.length = W := by have := hds.1; rw [wSt_len] at this; exact this
    have Hout := Lib.hid hout
    have Hdl := Lib.hid hdl
    have hdl4 : ds.length ≤ 4 := by omega
    rw [← hout] at Hend
    clear ho hd hds hbw hout hdl
    by_cases hlt : out.length < n
    · have hltI : decide ((out.length : Int) < (n : Int)) = true := by simp; omega
      have hk94 := hmore hlt
      clear hmore
      obtain ⟨hta, htb⟩ := turnAt_lt h1 Hs.out k
      have hst : wSt W n sc (k + 1) = stepW (wSt W n sc k) (turnAt W sc k) := rfl
      have hqn : ∀ q ∈ (wSt W n sc k).1, ∀ x ∈ q, 0 ≤ x := fun q hq x hx => by
        have hp := (Hpop.out k).subset (List.mem_append_right _ (List.mem_flatten.2 ⟨q, hq, hx⟩))
        obtain ⟨t, _, rfl⟩ := List.mem_map.1 hp
        omega
      have Hst : Hid (wSt W n sc (k + 1) = ((popQ (wSt W n sc k).1 (turnAt W sc k).1 (turnAt W sc k).2).1, if 0 ≤ (popQ (wSt W n sc k).1 (turnAt W sc k).1 (turnAt W sc k).2).2 then out ++ [(((turnAt W sc k).1 : Int), (popQ (wSt W n sc k).1 (turnAt W sc k).1 (turnAt W sc k).2).2)] else out)) := Lib.hid (by
        rw [hst, ← stepW_popQ _ _ _ _ (by rw [wSt_len]; exact hta) (by rw [wSt_len]; exact htb) hqn, Hout.out])
      have Hta := Lib.hid (show turnAt W sc k = (match sc[k]? with | some t => (t.1.toNat, t.2.toNat) | none => (k % W, (k + 1) % W)) from rfl)
      have Hlen := Lib.hid (wSt_len (W := W) (n := n) (sc := sc) k)
      clear hst hqn
      generalize turnAt W sc k = tt at *
      generalize (wSt W n sc k).1 = qs at *
      obtain ⟨a, b⟩ := tt
      dsimp only at hta htb Hst
      have hm1 : Int.tmod (k : Int) (W : Int) = ((k % W : Nat) : Int) := tmod_nat k W
      have hm2 : Int.tmod ((k : Int) + 1) (W : Int) = (((k + 1) % W : Nat) : Int) := tmod_nat1 k W 1
      have hW0 : ¬ W = 0 := by omega
      have hwr : IntKind.i64.wrap ((k : Int) + 1) = (k : Int) + 1 := IntWalk.i64_in _ (by omega)
      have hwm1 : IntKind.i64.wrap ((k % W : Nat) : Int) = ((k % W : Nat) : Int) := IntWalk.i64_in _ (by have := Nat.mod_lt k h1; omega)
      have hwm2 : IntKind.i64.wrap (((k + 1) % W : Nat) : Int) = (((k + 1) % W : Nat) : Int) := IntWalk.i64_in _ (by have := Nat.mod_lt (k + 1) h1; omega)
      obtain ⟨m1, hm1'⟩ : ∃ m1, m1 = k % W := ⟨_, rfl⟩
      obtain ⟨m2, hm2'⟩ : ∃ m2, m2 = (k + 1) % W := ⟨_, rfl⟩
      rw [← hm1'] at hm1 hwm1 Hta
      rw [← hm2'] at hm2 hwm2 Hta
      clear hm1' hm2'
      go_wp2_with fail
      refine wp_region_calm [0,1,2,3,4,5,6,7] [8,9] (by kernel_rfl) (by kernel_rfl) ?_
      (refine calm_yes rfl rfl (fun w' hC => (by go_simp; rfl)) (fun K hK => ?_); go_simp; refine hK _ ?_; clear hK K)
      (refine calm_yes rfl rfl (fun w' hC => (by go_simp; rfl)) (fun K hK => ?_); go_simp; refine hK _ ?_; clear hK K)
      (refine calm_yes rfl rfl (fun w' hC => (by go_simp; rfl)) (fun K hK => ?_); go_simp; refine hK _ ?_; clear hK K)
      (refine calm_yes rfl rfl (fun w' hC => (by go_simp; rfl)) (fun K hK => ?_); go_simp; refine hK _ ?_; clear hK K)
      (refine calm_yes rfl rfl (fun w' hC => (by go_simp; rfl)) (fun K hK => ?_); go_simp; refine hK _ ?_; clear hK K)
      (refine calm_yes rfl rfl (fun w' hC => (by go_simp; rfl)) (fun K hK => ?_); go_simp; refine hK _ ?_; clear hK K)
      (refine calm_yes rfl rfl (fun w' hC => (by go_simp; rfl)) (fun K hK => ?_); go_simp; refine hK _ ?_; clear hK K)
      (refine calm_yes rfl rfl (fun w' hC => (by go_simp; rfl)) (fun K hK => ?_); go_simp; refine hK _ ?_; clear hK K)
      refine calm_nil (fun wa hCa => ?_)
      refine late_keep rfl rfl hCa (fun wbw2 hxb hCb K hK => ?_)
      go_simp
      refine hK _ _ (Below.alloc hCb hCb.size _) (fun _ => ?_)
      clear hK K
      refine late_free (by kernel_rfl) rfl rfl (fun wd hxd K hK => ?_)
      have hZ := (Row.new wbw2 101 [.int .i64 0, .int .i64 0]).ext hxd
      have Eb := Ext.trans (ext_cls hCa) hxb
      have hlbw2 := Eb.size
      have e0 := hZ.cell_of (i := 0) rfl
      have ze0 := hZ.frozen 0
      have e1 := hZ.cell_of (i := 1) rfl
      have ze1 := hZ.frozen 1
      go_simp
      refine hK _ _ ?_
      clear hK K e0 ze0 e1 ze1
      refine late_nil (fun w2 hxz => ?_)
      have hR : Row w2 wbw2.heap.size 101 [.int .i64 m1, .int .i64 m2] := ((hZ.set_ 0 _).set_ 1 _).ext hxz
      have EN := Ext.trans (((Ext.trans (Ext.trans Eb (ext_alloc _ _)) hxd).setCell (p := ⟨wbw2.heap.size, 0, none⟩) (by simp; omega) _).setCell (p := ⟨wbw2.heap.size, 1, none⟩) (by simp; omega) _) hxz
      replace E := Lib.hid (Ext.trans E.out EN)
      replace O := Lib.hid (own_ext O.out EN)
      replace D := Lib.hid (own_ext D.out EN)
      replace Ds := Lib.hid (Ds.out.ext EN)
      have T := Lib.hid hR
      have lT := T.out.lt
      clear hR EN hZ Eb hCa hCb hxb hxd hxz
      have htb0 : w.heap.size ≤ wbw2.heap.size := by omega
      by_cases hks : k < sc.length
      · have hkd : decide ((k : Int) < (sc.length : Int)) = true := by simp; omega
        have hkI : (k : Int) < (sc.length : Int) := by omega
        obtain ⟨bs, off, hA, _hb, hc⟩ := (H.out.ext ptR_stab E.out).pts (by omega)
        obtain ⟨cx, cy⟩ := hc k hks
        have hab : a = sc[k].1.toNat ∧ b = sc[k].2.toNat := by
          have := Hta.out
          rw [List.getElem?_eq_getElem hks] at this
          dsimp only at this
          injection this with e1 e2
          exact ⟨e1, e2⟩
        have hsk := Hs.out sc[k] (List.getElem_mem hks)
        have hx : sc[k].1 = (a : Int) := by omega
        have hy : sc[k].2 = (b : Int) := by omega
        rw [hx] at cx
        rw [hy] at cy
        have Cx := Lib.hid cx
        have Cy := Lib.hid cy
        clear hc hab hsk hx hy cx cy hm1 hm2 hwr hwm1 hwm2 hW0
        subst hA
        have cCx := Cx.out
        have cCy := Cy.out
        have t0 := T.out.cell_of (i := 0) rfl
        have zt0 := T.out.frozen 0
        have t1 := T.out.cell_of (i := 1) rfl
        have zt1 := T.out.frozen 1
        go_wp2_with fail
        refine gen_calls ?_
        intro w3 hw3
        have T3 := (T.out.set_ 0 (.int .i64 (a : Int))).set_ 1 (.int .i64 (b : Int))
        have E3 := (E.out.setCell (p := ⟨wbw2.heap.size, 0, none⟩) (by exact htb0) (.int .i64 (a : Int))).setCell (p := ⟨wbw2.heap.size, 1, none⟩) (by exact htb0) (.int .i64 (b : Int))
        have O3 := has_row2 (.int .i64 (a : Int)) (.int .i64 (b : Int)) O.out T.out NE_TN
        have D3 := has_row2 (.int .i64 (a : Int)) (.int .i64 (b : Int)) D.out T.out NE_TD
        have Ds3 := ds_row2 (.int .i64 (a : Int)) (.int .i64 (b : Int)) Ds.out T.out NE_TI
        rw [← hw3] at T3 E3 O3 D3 Ds3
        clear cCx cCy t0 zt0 t1 zt1
        clear hw3 Cx Cy T E O D Ds
        have T : Hid (Row w3 wbw2.heap.size 101 [.int .i64 (a : Int), .int .i64 (b : Int)]) := Lib.hid T3
        have E := Lib.hid E3
        have O := Lib.hid O3
        have D := Lib.hid D3
        have Ds := Lib.hid Ds3
        clear T3 E3 O3 D3 Ds3
        obtain ⟨Wz, hWz⟩ : ∃ Wz : World, Wz = w3 := ⟨_, rfl⟩
        subst hWz
        have KT := Lib.hid (fun Wd h1 h2 => c_turn A2 cap2 ds qs a b Wd h1 h2 (by have := Hdl.out; omega) (by have := Hdl.out; omega) hdl4)
        have hz3 : w.heap.size ≤ Wz.heap.size := E.out.size
        go_wp2_with fail
        refine (KT.out _ (own_in (R := dqR) (enc := dqC) dqC_len (by decide) D.out (fun _ => rfl)) Ds.out).mono ?_
        rintro e w4 ⟨A3, cap3, ds3, rfl, hod, hds, hb⟩
        replace E := Lib.hid (Ext.trans E.out hb)
        replace O := Lib.hid (own_ext O.out hb)
        replace Ds := Lib.hid (Ds.out.ext hb)
        replace T := Lib.hid (T.out.ext hb)
        have lT := T.out.lt
        clear hb
        have t0 := T.out.cell_of (i := 0) rfl
        have zt0 := T.out.frozen 0
        have t1 := T.out.cell_of (i := 1) rfl
        have zt1 := T.out.frozen 1
        clear D Ds KT Hdl
        have D := Lib.hid (hod.rebase hz3)
        have Ds := Lib.hid hds
        clear hod hds
        generalize popQ qs a b = pq at *
        obtain ⟨qs', tile⟩ := pq
        dsimp only at Hst Ds
        by_cases h0 : 0 ≤ tile
        · have h0d : decide (0 ≤ tile) = true := by simp; exact h0
          have Hn : Hid (wSt W n sc (k + 1) = (qs', out ++ [((a : Int), tile)])) := Lib.hid (by rw [Hst.out, if_pos h0])
          clear Hst
          have hz4 : w.heap.size ≤ w4.heap.size := E.out.size
          clear t0 zt0 t1 zt1
          have t0 := T.out.cell_of (i := 0) rfl
          have t1 := T.out.cell_of (i := 1) rfl
          go_wp2_with (at_builtin; refine wpList_app (base := w.heap.size) ei_done rfl (.tmp 48) (.tmp 53) rfl rfl (own_ext O.out (ext_alloc _ _)) rfl (src_new _ _ [_, _] (m := 1) rfl (by intro u hu; simp only [List.mem_cons, List.not_mem_nil, or_false] at hu; rcases hu with rfl | rfl <;> rfl)) (by omega) (by simp; omega) ?_; intro ve w5 hown hg hat; refine stop_in ?_)
          refine stop_out ?_
          obtain ⟨A4, cap4, hve⟩ := own_form hown
          replace Ds := Lib.hid ((Ds.out.ext (ext_alloc _ _)).grown (own_ext O.out (ext_alloc _ _)) NE_NI hg)
          clear t0 t1
          replace E := Lib.hid (Below.grown (Ext.trans E.out (ext_alloc _ _)) hg (by simp; omega) (fun k hk => by have := (O.out.lt k hk).1; omega))
          replace D := Lib.hid ((own_ext D.out (ext_alloc _ _)).grownNe (own_ext O.out (ext_alloc _ _)) (by decide) hg)
          replace T := Lib.hid ((T.out.ext (ext_alloc _ _)).grownNe (own_ext O.out (ext_alloc _ _)) (by decide) hg)
          have lT := T.out.lt
          have heq : out ++ [((a : Int), tile)] = (out ++ [((a : Int), tile)]) := rfl
          replace O : Hid (Has w5 w.heap.size 99 2 (.slice A4 ((out ++ [((a : Int), tile)])).length cap4) ((out ++ [((a : Int), tile)])).length (((out ++ [((a : Int), tile)])).flatMap ptC)) := Lib.hid (by
            have q := hown
            rw [hve] at q
            rw [← heq, List.flatMap_append, List.length_append]
            exact q)
          have hvf : ve = .slice A4 ((out ++ [((a : Int), tile)])).length cap4 := by rw [hve, ← heq, List.length_append]; rfl
          clear hve
          clear hown hg hat heq
          subst hvf
          have t0 := T.out.cell_of (i := 0) rfl
          have t1 := T.out.cell_of (i := 1) rfl
          go_wp2
          go_roundw
          case rel => exact ⟨k + 1, A4, cap4, _, A3, cap3, ds3, by omega, by go_num, rfl, rfl, by rw [Hn.out], O.out, D.out, by rw [Hn.out]; exact Ds.out, E.out⟩
          case measure => simp [intOf]; omega
        · have h0d : decide (0 ≤ tile) = false := by simp; omega
          have Hn : Hid (wSt W n sc (k + 1) = (qs', out)) := Lib.hid (by rw [Hst.out, if_neg h0])
          clear Hst
          clear t0 zt0 t1 zt1
          have t0 := T.out.cell_of (i := 0) rfl
          have t1 := T.out.cell_of (i := 1) rfl
          go_wp2
          go_roundw
          case rel => exact ⟨k + 1, A1, cap1, out, A3, cap3, ds3, by omega, by go_num, rfl, rfl, by rw [Hn.out], O.out, D.out, by rw [Hn.out]; exact Ds.out, E.out⟩
          case measure => simp [intOf]; omega
      · have hkd : decide ((k : Int) < (sc.length : Int)) = false := by simp; omega
        have hab : (a, b) = (m1, m2) := by
          have := Hta.out
          rw [List.getElem?_eq_none (by omega)] at this
          exact this
        injection hab with e1 e2
        subst e1 e2
        clear hm1 hm2 hwr hwm1 hwm2 hW0
        have t0 := T.out.cell_of (i := 0) rfl
        have zt0 := T.out.frozen 0
        have t1 := T.out.cell_of (i := 1) rfl
        have zt1 := T.out.frozen 1
        go_wp2_with fail
        clear t0 zt0 t1 zt1
        obtain ⟨Wz, hWz⟩ : ∃ Wz : World, Wz = w2 := ⟨_, rfl⟩
        subst hWz
        have KT := Lib.hid (fun Wd h1 h2 => c_turn A2 cap2 ds qs a b Wd h1 h2 (by have := Hdl.out; omega) (by have := Hdl.out; omega) hdl4)
        have hz3 : w.heap.size ≤ Wz.heap.size := E.out.size
        go_wp2_with fail
        refine (KT.out _ (own_in (R := dqR) (enc := dqC) dqC_len (by decide) D.out (fun _ => rfl)) Ds.out).mono ?_
        rintro e w4 ⟨A3, cap3, ds3, rfl, hod, hds, hb⟩
        replace E := Lib.hid (Ext.trans E.out hb)
        replace O := Lib.hid (own_ext O.out hb)
        replace Ds := Lib.hid (Ds.out.ext hb)
        replace T := Lib.hid (T.out.ext hb)
        have lT := T.out.lt
        clear hb
        have t0 := T.out.cell_of (i := 0) rfl
        have zt0 := T.out.frozen 0
        have t1 := T.out.cell_of (i := 1) rfl
        have zt1 := T.out.frozen 1
        clear D Ds KT Hdl
        have D := Lib.hid (hod.rebase hz3)
        have Ds := Lib.hid hds
        clear hod hds
        generalize popQ qs a b = pq at *
        obtain ⟨qs', tile⟩ := pq
        dsimp only at Hst Ds
        by_cases h0 : 0 ≤ tile
        · have h0d : decide (0 ≤ tile) = true := by simp; exact h0
          have Hn : Hid (wSt W n sc (k + 1) = (qs', out ++ [((a : Int), tile)])) := Lib.hid (by rw [Hst.out, if_pos h0])
          clear Hst
          have hz4 : w.heap.size ≤ w4.heap.size := E.out.size
          clear t0 zt0 t1 zt1
          have t0 := T.out.cell_of (i := 0) rfl
          have t1 := T.out.cell_of (i := 1) rfl
          go_wp2_with (at_builtin; refine wpList_app (base := w.heap.size) ei_done rfl (.tmp 48) (.tmp 53) rfl rfl (own_ext O.out (ext_alloc _ _)) rfl (src_new _ _ [_, _] (m := 1) rfl (by intro u hu; simp only [List.mem_cons, List.not_mem_nil, or_false] at hu; rcases hu with rfl | rfl <;> rfl)) (by omega) (by simp; omega) ?_; intro ve w5 hown hg hat; refine stop_in ?_)
          refine stop_out ?_
          obtain ⟨A4, cap4, hve⟩ := own_form hown
          replace Ds := Lib.hid ((Ds.out.ext (ext_alloc _ _)).grown (own_ext O.out (ext_alloc _ _)) NE_NI hg)
          clear t0 t1
          replace E := Lib.hid (Below.grown (Ext.trans E.out (ext_alloc _ _)) hg (by simp; omega) (fun k hk => by have := (O.out.lt k hk).1; omega))
          replace D := Lib.hid ((own_ext D.out (ext_alloc _ _)).grownNe (own_ext O.out (ext_alloc _ _)) (by decide) hg)
          replace T := Lib.hid ((T.out.ext (ext_alloc _ _)).grownNe (own_ext O.out (ext_alloc _ _)) (by decide) hg)
          have lT := T.out.lt
          have heq : out ++ [((a : Int), tile)] = (out ++ [((a : Int), tile)]) := rfl
          replace O : Hid (Has w5 w.heap.size 99 2 (.slice A4 ((out ++ [((a : Int), tile)])).length cap4) ((out ++ [((a : Int), tile)])).length (((out ++ [((a : Int), tile)])).flatMap ptC)) := Lib.hid (by
            have q := hown
            rw [hve] at q
            rw [← heq, List.flatMap_append, List.length_append]
            exact q)
          have hvf : ve = .slice A4 ((out ++ [((a : Int), tile)])).length cap4 := by rw [hve, ← heq, List.length_append]; rfl
          clear hve
          clear hown hg hat heq
          subst hvf
          have t0 := T.out.cell_of (i := 0) rfl
          have t1 := T.out.cell_of (i := 1) rfl
          go_wp2
          go_roundw
          case rel => exact ⟨k + 1, A4, cap4, _, A3, cap3, ds3, by omega, by go_num, rfl, rfl, by rw [Hn.out], O.out, D.out, by rw [Hn.out]; exact Ds.out, E.out⟩
          case measure => simp [intOf]; omega
        · have h0d : decide (0 ≤ tile) = false := by simp; omega
          have Hn : Hid (wSt W n sc (k + 1) = (qs', out)) := Lib.hid (by rw [Hst.out, if_neg h0])
          clear Hst
          clear t0 zt0 t1 zt1
          have t0 := T.out.cell_of (i := 0) rfl
          have t1 := T.out.cell_of (i := 1) rfl
          go_wp2
          go_roundw
          case rel => exact ⟨k + 1, A1, cap1, out, A3, cap3, ds3, by omega, by go_num, rfl, rfl, by rw [Hn.out], O.out, D.out, by rw [Hn.out]; exact Ds.out, E.out⟩
          case measure => simp [intOf]; omega
    · have hltI : decide ((out.length : Int) < (n : Int)) = false := by simp; omega
      have Hf := Lib.hid (Hend.out hlt)
      go_wp2
      go_ret
      rw [Hf.out]
      exact ⟨A1, cap1, rfl, O.out, E.out⟩
end Go.Proofs.YtagmnbphbakikaaGreat
