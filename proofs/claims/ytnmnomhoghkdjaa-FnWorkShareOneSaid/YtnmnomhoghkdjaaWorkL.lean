/-
  Workers that steal, plainly: the queues, the turns, what is drawn. Nothing of a program.
-/
import Derived.Test.YtnmnomhoghkdjaaLib
namespace Go.Proofs.Ytnmnomhoghkdjaa
abbrev WSt := List (List Int) × List Pt
/-- The tiles below n of queue r. -/
def qOf (W n r : Nat) : List Int := ((List.range n).filter (fun t => decide (t % W = r))).map (fun t : Nat => (t : Int))
def qs0 (W n : Nat) : List (List Int) := (List.range W).map (qOf W n)
def turnAt (W : Nat) (sc : List Pt) (i : Nat) : Nat × Nat := match sc[i]? with
  | some t => (t.1.toNat, t.2.toNat)
  | none => (i % W, (i + 1) % W)
def stepW (s : WSt) (t : Nat × Nat) : WSt :=
  if 0 < (s.1.getD t.1 []).length then (s.1.set t.1 (s.1.getD t.1 []).dropLast, s.2 ++ [((t.1 : Int), (s.1.getD t.1 []).getLastD 0)])
  else if 0 < (s.1.getD t.2 []).length then (s.1.set t.2 ((s.1.getD t.2 []).drop 1), s.2 ++ [((t.1 : Int), (s.1.getD t.2 []).headD 0)])
  else s
def wSt (W n : Nat) (sc : List Pt) : Nat → WSt
  | 0 => (qs0 W n, [])
  | i + 1 => stepW (wSt W n sc i) (turnAt W sc i)
def workL (W n : Nat) (sc : List Pt) : List Pt := (wSt W n sc 94).2
/-- Turns among W workers. -/
def ScOk (W : Nat) (sc : List Pt) : Prop := ∀ t ∈ sc, (0 ≤ t.1 ∧ t.1 < W) ∧ (0 ≤ t.2 ∧ t.2 < W)

theorem qOf_zero (W r : Nat) : qOf W 0 r = [] := rfl
theorem qOf_succ (W n r : Nat) : qOf W (n + 1) r = if n % W = r then qOf W n r ++ [(n : Int)] else qOf W n r := by
  unfold qOf
  rw [List.range_succ, List.filter_append, List.map_append]
  by_cases h : n % W = r <;> simp [h]
theorem qOf_len (W n r : Nat) : (qOf W n r).length ≤ n := by
  unfold qOf
  rw [List.length_map]
  have := List.length_filter_le (fun t => decide (t % W = r)) (List.range n)
  simpa using this
theorem qOf_bd {W n r : Nat} : ∀ x ∈ qOf W n r, 0 ≤ x ∧ x < n := by
  intro x hx
  unfold qOf at hx
  obtain ⟨t, ht, rfl⟩ := List.mem_map.1 hx
  have := List.mem_range.1 (List.mem_filter.1 ht).1
  omega
theorem qs0_len (W n : Nat) : (qs0 W n).length = W := by simp [qs0]
theorem qs0_get {W n r : Nat} (h : r < W) : (qs0 W n)[r]'(by rw [qs0_len]; exact h) = qOf W n r := by simp [qs0]
theorem qs0_zero (W : Nat) : qs0 W 0 = List.replicate W [] := by
  unfold qs0
  apply List.ext_getElem (by simp)
  intro i h1 h2
  simp [qOf_zero]
theorem qs0_succ {W n : Nat} : qs0 W (n + 1) = (qs0 W n).set (n % W) (qOf W n (n % W) ++ [(n : Int)]) := by
  apply List.ext_getElem (by simp [qs0])
  intro i h1 h2
  have hi : i < W := by rw [qs0_len] at h1; exact h1
  rw [qs0_get hi, qOf_succ]
  by_cases h : n % W = i
  · subst h; simp
  · rw [if_neg h, List.getElem_set_ne h, qs0_get hi]
/-- Tiles of a queue, taken in strides. -/
theorem qOf_stride {W r t : Nat} (hr : r < W) (ht : t % W = r) : ∀ j, j ≤ W → qOf W (t + j) r = if j = 0 then qOf W t r else qOf W t r ++ [(t : Int)]
  | 0, _ => by simp
  | 1, _ => by rw [qOf_succ, if_pos ht]; simp
  | j + 2, hj => by
    have ih := qOf_stride hr ht (j + 1) (by omega)
    rw [show t + (j + 2) = (t + (j + 1)) + 1 by omega, qOf_succ, ih, if_neg]
    · simp
    · intro h
      have h1 : (t + (j + 1)) % W = t % W := by rw [h, ht]
      have h2 := Nat.sub_mod_eq_zero_of_mod_eq h1
      rw [show t + (j + 1) - t = j + 1 by omega, Nat.mod_eq_of_lt (by omega)] at h2
      omega
theorem qOf_next {W r t : Nat} (hr : r < W) (ht : t % W = r) : qOf W (t + W) r = qOf W t r ++ [(t : Int)] := by
  rw [qOf_stride hr ht W (Nat.le_refl _), if_neg (by omega)]
/-- Between two tiles of a queue there is none. -/
theorem qOf_gap {W r t n : Nat} (ht : t % W = r) (h1 : n ≤ t) (h2 : t < n + W) : qOf W t r = qOf W n r := by
  have key : ∀ k, n + k ≤ t → qOf W (n + k) r = qOf W n r := by
    intro k
    induction k with
    | zero => intro _; rfl
    | succ k ih =>
      intro hk
      rw [show n + (k + 1) = (n + k) + 1 by omega, qOf_succ, if_neg, ih (by omega)]
      intro h
      have h4 : t % W = (n + k) % W := by rw [h, ht]
      have h5 := Nat.sub_mod_eq_zero_of_mod_eq h4
      rw [Nat.mod_eq_of_lt (by omega)] at h5
      omega
  have := key (t - n) (by omega)
  rwa [show n + (t - n) = t by omega] at this

section
variable {W n : Nat} {sc : List Pt}
theorem turnAt_lt (h0 : 0 < W) (hs : ScOk W sc) (i : Nat) : (turnAt W sc i).1 < W ∧ (turnAt W sc i).2 < W := by
  unfold turnAt
  cases h : sc[i]? with
  | none => exact ⟨Nat.mod_lt _ h0, Nat.mod_lt _ h0⟩
  | some t =>
    have := hs t (List.mem_of_getElem? h)
    dsimp only
    omega
theorem stepW_len (s : WSt) (t : Nat × Nat) : (stepW s t).1.length = s.1.length := by
  unfold stepW; split
  · simp
  · split <;> simp
theorem wSt_len (i : Nat) : (wSt W n sc i).1.length = W := by
  induction i with
  | zero => exact qs0_len W n
  | succ i ih => show (stepW _ _).1.length = W; rw [stepW_len, ih]

theorem flatten_set_perm {qs : List (List Int)} {a : Nat} (h : a < qs.length) (q' : List Int) (x : Int) (hp : (qs[a]).Perm (x :: q')) : qs.flatten.Perm (x :: (qs.set a q').flatten) := by
  have e1 : qs = qs.take a ++ qs[a] :: qs.drop (a + 1) := by rw [← List.drop_eq_getElem_cons h, List.take_append_drop]
  have e2 : qs.set a q' = qs.take a ++ q' :: qs.drop (a + 1) := List.set_eq_take_append_cons_drop.trans (by rw [if_pos h])
  rw [e2]
  conv => lhs; rw [e1]
  simp only [List.flatten_append, List.flatten_cons]
  have h1 : ((qs.take a).flatten ++ (qs[a] ++ (qs.drop (a + 1)).flatten)).Perm ((qs.take a).flatten ++ ((x :: q') ++ (qs.drop (a + 1)).flatten)) := (hp.append_right _).append_left _
  refine h1.trans ?_
  rw [List.cons_append]
  exact List.perm_middle
theorem getD_of {qs : List (List Int)} {a : Nat} (h : a < qs.length) : qs.getD a [] = qs[a] := by simp [h]
/-- One turn: a tile goes from a queue to what is drawn, or nothing happens. -/
theorem stepW_perm (s : WSt) (t : Nat × Nat) (h1 : t.1 < s.1.length) (h2 : t.2 < s.1.length) : ((stepW s t).2.map (·.2) ++ (stepW s t).1.flatten).Perm (s.2.map (·.2) ++ s.1.flatten) := by
  unfold stepW
  split
  · rename_i h
    rw [getD_of h1] at h ⊢
    dsimp only
    rw [List.map_append, List.append_assoc]
    refine List.Perm.append_left _ ?_
    simp only [List.map_cons, List.map_nil, List.cons_append, List.nil_append]
    refine (flatten_set_perm h1 _ _ ?_).symm
    have hne : s.1[t.1] ≠ [] := by intro hh; rw [hh] at h; simp at h
    have e : s.1[t.1].getLastD 0 = s.1[t.1].getLast hne := by
      rw [List.getLastD_eq_getLast?, List.getLast?_eq_some_getLast hne]; rfl
    rw [e]
    have := List.dropLast_concat_getLast hne
    conv => lhs; rw [← this]
    exact List.perm_append_singleton _ _
  · split
    · rename_i h
      rw [getD_of h2] at h ⊢
      dsimp only
      rw [List.map_append, List.append_assoc]
      refine List.Perm.append_left _ ?_
      simp only [List.map_cons, List.map_nil, List.cons_append, List.nil_append]
      refine (flatten_set_perm h2 _ _ ?_).symm
      generalize s.1[t.2] = q at *
      match q, h with
      | x :: q, _ => exact List.Perm.refl _
    · exact List.Perm.refl _
theorem qs0_perm (h0 : 0 < W) : (qs0 W n).flatten.Perm ((List.range n).map (fun t : Nat => (t : Int))) := by
  induction n with
  | zero =>
    rw [qs0_zero]
    have : (List.replicate W ([] : List Int)).flatten = [] := by simp
    rw [this]; exact List.Perm.refl _
  | succ n ih =>
    have hlt : n % W < (qs0 W n).length := by rw [qs0_len]; exact Nat.mod_lt _ h0
    have hlt' : n % W < ((qs0 W n).set (n % W) (qOf W n (n % W) ++ [(n : Int)])).length := by rw [List.length_set]; exact hlt
    rw [qs0_succ, List.range_succ, List.map_append]
    have h := flatten_set_perm hlt' (qOf W n (n % W)) (n : Int) (by rw [List.getElem_set_self]; exact List.perm_append_singleton _ _)
    refine h.trans ?_
    rw [List.set_set]
    have e : (qs0 W n).set (n % W) (qOf W n (n % W)) = qs0 W n := by
      rw [← qs0_get (n := n) (Nat.mod_lt n h0)]; exact List.set_getElem_self _
    rw [e]
    exact (List.Perm.cons _ ih).trans (List.perm_append_singleton _ _).symm
theorem wSt_perm (h0 : 0 < W) (hs : ScOk W sc) (i : Nat) : ((wSt W n sc i).2.map (·.2) ++ (wSt W n sc i).1.flatten).Perm ((List.range n).map (fun t : Nat => (t : Int))) := by
  induction i with
  | zero => simpa [wSt] using qs0_perm h0
  | succ i ih =>
    have ht := turnAt_lt h0 hs i
    exact (stepW_perm _ _ (by rw [wSt_len]; exact ht.1) (by rw [wSt_len]; exact ht.2)).trans ih
theorem wSt_total (h0 : 0 < W) (hs : ScOk W sc) (i : Nat) : (wSt W n sc i).2.length + (wSt W n sc i).1.flatten.length = n := by
  have := (wSt_perm h0 hs (n := n) i).length_eq
  simpa using this
theorem wSt_workers (h0 : 0 < W) (hs : ScOk W sc) (i : Nat) : ∀ d ∈ (wSt W n sc i).2, 0 ≤ d.1 ∧ d.1 < W := by
  induction i with
  | zero => intro d hd; cases hd
  | succ i ih =>
    have ht := turnAt_lt h0 hs i
    intro d hd
    have hd' : d ∈ (stepW (wSt W n sc i) (turnAt W sc i)).2 := hd
    unfold stepW at hd'
    split at hd'
    · rcases List.mem_append.1 hd' with h | h
      · exact ih d h
      · simp at h; subst h; dsimp only; omega
    · split at hd'
      · rcases List.mem_append.1 hd' with h | h
        · exact ih d h
        · simp at h; subst h; dsimp only; omega
      · exact ih d hd'
/-- A turn that draws nothing leaves all as it is. -/
theorem stepW_same (s : WSt) (t : Nat × Nat) (h : (stepW s t).2.length = s.2.length) : stepW s t = s := by
  unfold stepW at h ⊢
  split at h
  · simp at h
  · split at h
    · simp at h
    · rename_i h1 h2; rw [if_neg h1, if_neg h2]
theorem stepW_le (s : WSt) (t : Nat × Nat) : s.2.length ≤ (stepW s t).2.length ∧ (stepW s t).2.length ≤ s.2.length + 1 := by
  unfold stepW
  split
  · simp
  · split <;> simp
theorem wSt_mono (i j : Nat) (h : i ≤ j) : (wSt W n sc i).2.length ≤ (wSt W n sc j).2.length := by
  induction j with
  | zero => obtain rfl : i = 0 := by omega
            exact Nat.le_refl _
  | succ j ih =>
    rcases Nat.lt_or_ge i (j + 1) with hlt | hge
    · exact Nat.le_trans (ih (by omega)) (stepW_le _ _).1
    · obtain rfl : i = j + 1 := by omega
      exact Nat.le_refl _
theorem wSt_same {i : Nat} : ∀ j, (wSt W n sc (i + j)).2.length = (wSt W n sc i).2.length → wSt W n sc (i + j) = wSt W n sc i
  | 0, _ => rfl
  | j + 1, h => by
    have h1 := wSt_mono (W := W) (n := n) (sc := sc) i (i + j) (by omega)
    have h2 := (stepW_le (wSt W n sc (i + j)) (turnAt W sc (i + j))).1
    have h3 : (wSt W n sc (i + (j + 1))).2.length = (stepW (wSt W n sc (i + j)) (turnAt W sc (i + j))).2.length := rfl
    have e1 := wSt_same (i := i) j (by omega)
    have e2 := stepW_same (wSt W n sc (i + j)) (turnAt W sc (i + j)) (by omega)
    show stepW (wSt W n sc (i + j)) (turnAt W sc (i + j)) = _
    rw [e2, e1]
/-- Behind the script, in W turns something is drawn. -/
theorem wSt_prog (h0 : 0 < W) (hs : ScOk W sc) {i : Nat} (hi : sc.length ≤ i) (hp : (wSt W n sc i).2.length < n) : (wSt W n sc i).2.length < (wSt W n sc (i + W)).2.length := by
  have hm := wSt_mono (W := W) (n := n) (sc := sc) i (i + W) (by omega)
  rcases Nat.lt_or_ge (wSt W n sc i).2.length (wSt W n sc (i + W)).2.length with h | h
  · exact h
  exfalso
  have hall : ∀ j, j ≤ W → wSt W n sc (i + j) = wSt W n sc i := fun j hj => wSt_same j (by
    have h1 := wSt_mono (W := W) (n := n) (sc := sc) i (i + j) (by omega)
    have h2 := wSt_mono (W := W) (n := n) (sc := sc) (i + j) (i + W) (by omega)
    omega)
  have ht := wSt_total h0 hs (n := n) i
  have hex : ∃ w, w < W ∧ 0 < ((wSt W n sc i).1.getD w []).length := by
    have hl := wSt_len (W := W) (n := n) (sc := sc) i
    generalize (wSt W n sc i).1 = qs at *
    have hf : qs.flatten ≠ [] := by intro hh; rw [hh] at ht; simp at ht; omega
    obtain ⟨x, hx⟩ := List.exists_mem_of_ne_nil _ hf
    obtain ⟨q, hq, hxq⟩ := List.mem_flatten.1 hx
    obtain ⟨w, hw, rfl⟩ := List.getElem_of_mem hq
    exact ⟨w, by omega, by rw [getD_of hw]; exact List.length_pos_of_mem hxq⟩
  obtain ⟨w, hw, hne⟩ := hex
  obtain ⟨j, hj, hjw⟩ : ∃ j, j < W ∧ (i + j) % W = w := by
    refine ⟨(w + W - i % W) % W, Nat.mod_lt _ h0, ?_⟩
    have hlt := Nat.mod_lt i h0
    rw [Nat.add_mod_mod, ← Nat.mod_add_mod]
    rw [show i % W + (w + W - i % W) = w + W by omega, Nat.add_mod_right, Nat.mod_eq_of_lt hw]
  have h1 := hall j (by omega)
  have h2 := hall (j + 1) (by omega)
  have e : turnAt W sc (i + j) = (w, (i + j + 1) % W) := by
    unfold turnAt
    rw [List.getElem?_eq_none (by omega)]
    dsimp only
    rw [hjw]
  have h3 : wSt W n sc (i + (j + 1)) = stepW (wSt W n sc (i + j)) (turnAt W sc (i + j)) := rfl
  rw [h1, e] at h3
  rw [h2] at h3
  have h4 := congrArg (fun s : WSt => s.2.length) h3
  unfold stepW at h4
  rw [if_pos hne] at h4
  simp at h4
theorem wSt_bound (h0 : 0 < W) (hs : ScOk W sc) (k : Nat) : min n k ≤ (wSt W n sc (sc.length + W * k)).2.length := by
  induction k with
  | zero => simp
  | succ k ih =>
    have e : sc.length + W * (k + 1) = (sc.length + W * k) + W := by rw [Nat.mul_succ]; omega
    rw [e]
    rcases Nat.lt_or_ge (wSt W n sc (sc.length + W * k)).2.length n with h | h
    · have := wSt_prog h0 hs (i := sc.length + W * k) (by omega) h
      omega
    · have := wSt_mono (W := W) (n := n) (sc := sc) (sc.length + W * k) (sc.length + W * k + W) (by omega)
      omega
variable (h0 : 0 < W) (h4 : W ≤ 4) (hn : n ≤ 16) (hs : ScOk W sc) (hl : sc.length ≤ 30)
include h0 hs in
theorem wSt_le (i : Nat) : (wSt W n sc i).2.length ≤ n := by have := wSt_total h0 hs (n := n) i; omega
include h0 h4 hn hs hl in
theorem wSt_done : (wSt W n sc 94).2.length = n := by
  have h1 := wSt_bound h0 hs (n := n) 16
  have h2 := wSt_le h0 hs (n := n) 94
  have h3 : sc.length + W * 16 ≤ 94 := by omega
  have h5 := wSt_mono (W := W) (n := n) (sc := sc) _ _ h3
  omega
include h0 h4 hn hs hl in
/-- Something left: the turns are not over. -/
theorem wSt_more {i : Nat} (h : (wSt W n sc i).2.length < n) : i < 94 := by
  rcases Nat.lt_or_ge i 94 with h1 | h1
  · exact h1
  · have := wSt_mono (W := W) (n := n) (sc := sc) 94 i h1
    have := wSt_done h0 h4 hn hs hl
    omega
include h0 h4 hn hs hl in
theorem wSt_end {i : Nat} (hi : i ≤ 94) (h : ¬ (wSt W n sc i).2.length < n) : workL W n sc = (wSt W n sc i).2 := by
  have h1 := wSt_le h0 hs (n := n) i
  have h2 := wSt_done h0 h4 hn hs hl
  have := wSt_same (W := W) (n := n) (sc := sc) (i := i) (94 - i) (by rw [show i + (94 - i) = 94 by omega]; omega)
  rw [show i + (94 - i) = 94 by omega] at this
  unfold workL
  rw [this]
include h0 h4 hn hs hl in
theorem workL_len : (workL W n sc).length = n := wSt_done h0 h4 hn hs hl
include h0 h4 hn hs hl in
theorem workL_perm : ((workL W n sc).map (·.2)).Perm ((List.range n).map (fun t : Nat => (t : Int))) := by
  have h1 := wSt_perm h0 hs (n := n) 94
  have h2 := wSt_total h0 hs (n := n) 94
  have h3 := wSt_done h0 h4 hn hs hl
  have e : (wSt W n sc 94).1.flatten = [] := List.eq_nil_of_length_eq_zero (by omega)
  rw [e, List.append_nil] at h1
  exact h1
include h0 hs in
theorem workL_workers : ∀ d ∈ workL W n sc, 0 ≤ d.1 ∧ d.1 < W := wSt_workers h0 hs 94
end
/-! ### what the queues' slots hold -/
def slotsL (top : Nat) (xs : List Int) : List Int := List.replicate top (-1) ++ (xs ++ List.replicate (16 - top - xs.length) (-1))
theorem slotsL_len {top : Nat} {xs : List Int} (h : top + xs.length ≤ 16) : (slotsL top xs).length = 16 := by simp [slotsL]; omega
theorem slotsL_at {top : Nat} {xs : List Int} (h : top + xs.length ≤ 16) (i : Nat) (hi : i < 16) : (slotsL top xs)[i]'(by rw [slotsL_len h]; exact hi) = if h2 : top ≤ i ∧ i < top + xs.length then xs[i - top] else -1 := by
  unfold slotsL
  by_cases h1 : i < top
  · rw [List.getElem_append_left (by simpa using h1)]
    simp; omega
  · rw [List.getElem_append_right (by simpa using h1)]
    by_cases h2 : i < top + xs.length
    · rw [List.getElem_append_left (by simp; omega)]
      rw [dif_pos ⟨by omega, h2⟩]
      congr 1
      simp
    · rw [List.getElem_append_right (by simp; omega)]
      rw [dif_neg (by omega)]
      simp
theorem slotsL_ext {top : Nat} {xs : List Int} (h : top + xs.length ≤ 16) {l : List Int} (hl : l.length = 16) (hg : ∀ (i : Nat) (hi : i < 16), l[i] = if h2 : top ≤ i ∧ i < top + xs.length then xs[i - top] else -1) : l = slotsL top xs := by
  apply List.ext_getElem (by rw [hl, slotsL_len h])
  intro i h1 h2
  rw [hg i (by omega), slotsL_at h i (by omega)]
theorem slotsL_push {top : Nat} {xs : List Int} (h : top + xs.length < 16) (x : Int) : (slotsL top xs).set (top + xs.length) x = slotsL top (xs ++ [x]) := by
  refine slotsL_ext (by simp; omega) (by rw [List.length_set, slotsL_len (by omega)]) fun i hi => ?_
  rw [List.getElem_set]
  by_cases h1 : top + xs.length = i
  · subst h1
    rw [if_pos rfl, dif_pos ⟨by omega, by simp⟩]
    rw [List.getElem_append_right (by omega)]; simp
  · rw [if_neg h1, slotsL_at (by omega) i hi]
    by_cases h2 : top ≤ i ∧ i < top + xs.length
    · rw [dif_pos h2, dif_pos ⟨h2.1, by simp; omega⟩, List.getElem_append_left (by omega)]
    · rw [dif_neg h2, dif_neg (by simp; omega)]
theorem slotsL_pop {top : Nat} {xs : List Int} (h : top + xs.length ≤ 16) (h0 : 0 < xs.length) : (slotsL top xs).set (top + xs.length - 1) (-1) = slotsL top xs.dropLast := by
  refine slotsL_ext (by simp; omega) (by rw [List.length_set, slotsL_len (by omega)]) fun i hi => ?_
  rw [List.getElem_set]
  by_cases h1 : top + xs.length - 1 = i
  · rw [if_pos h1, dif_neg (by simp; omega)]
  · rw [if_neg h1, slotsL_at (by omega) i hi]
    by_cases h2 : top ≤ i ∧ i < top + xs.length
    · rw [dif_pos h2, dif_pos ⟨h2.1, by simp; omega⟩, List.getElem_dropLast]
    · rw [dif_neg h2, dif_neg (by simp; omega)]
theorem slotsL_steal {top : Nat} {xs : List Int} (h : top + xs.length ≤ 16) (h0 : 0 < xs.length) : (slotsL top xs).set top (-1) = slotsL (top + 1) (xs.drop 1) := by
  refine slotsL_ext (by simp; omega) (by rw [List.length_set, slotsL_len (by omega)]) fun i hi => ?_
  rw [List.getElem_set]
  by_cases h1 : top = i
  · rw [if_pos h1, dif_neg (by simp; omega)]
  · rw [if_neg h1, slotsL_at (by omega) i hi]
    by_cases h2 : top ≤ i ∧ i < top + xs.length
    · rw [dif_pos h2, dif_pos ⟨by omega, by simp; omega⟩, List.getElem_drop]
      congr 1; omega
    · rw [dif_neg h2, dif_neg (by simp; omega)]
theorem slotsL_nil : slotsL 0 [] = List.replicate 16 (-1) := rfl
theorem slotsL_bd {top : Nat} {xs : List Int} (h : top + xs.length ≤ 16) (hb : ∀ x ∈ xs, 0 ≤ x ∧ x ≤ 99) (i : Nat) (hi : i < (slotsL top xs).length) :
    (-1 ≤ (slotsL top xs)[i] ∧ (slotsL top xs)[i] ≤ 99) ∧ (0 ≤ (slotsL top xs)[i] ↔ (top ≤ i ∧ i < top + xs.length)) := by
  have hi' : i < 16 := by rw [slotsL_len h] at hi; exact hi
  rw [slotsL_at h i hi']
  by_cases h2 : top ≤ i ∧ i < top + xs.length
  · rw [dif_pos h2]
    have := hb _ (List.getElem_mem (show i - top < xs.length by omega))
    omega
  · rw [dif_neg h2]
    omega
end Go.Proofs.Ytnmnomhoghkdjaa
