/-
  What the workers draw and how much, plainly.
-/
import Derived.Test.YtnmnomhoghkdjaaWorkX
namespace Go.Proofs.Ytnmnomhoghkdjaa
open Go Go.RowKit Reg
theorem workR_facts {n W : Int} {ts : List Pt} (h : 0 < (workR n W ts).length) :
    (inB n 0 16 = true ∧ wvB W ts = true) ∧ (∀ d ∈ workR n W ts, (0 ≤ d.2 ∧ d.2 < n) ∧ (0 ≤ d.1 ∧ d.1 < W)) ∧ ((workR n W ts).map (·.2)).Nodup ∧ ((workR n W ts).length : Int) = n := by
  have hv : inB n 0 16 = true ∧ wvB W ts = true := by
    unfold workR at h
    split at h
    · rename_i h1; simpa using h1
    · simp at h
  have e : workR n W ts = workL W.toNat n.toNat ts := by unfold workR; rw [hv.1, hv.2]; rfl
  have hn := inB_iff.1 hv.1
  obtain ⟨hW, h30, hsc⟩ := wvB_sc hv.2
  rw [e]
  have hp := workL_perm (W := W.toNat) (n := n.toNat) (sc := ts) (by omega) (by omega) (by omega) hsc h30
  refine ⟨hv, fun d hd => ⟨?_, ?_⟩, ?_, ?_⟩
  · have := hp.subset (List.mem_map_of_mem hd)
    obtain ⟨t, ht, he⟩ := List.mem_map.1 this
    have := List.mem_range.1 ht
    omega
  · have := workL_workers (W := W.toNat) (n := n.toNat) (sc := ts) (by omega) hsc d hd
    omega
  · rw [hp.nodup_iff]
    refine List.Pairwise.map _ ?_ List.nodup_range
    intro a b hab
    omega
  · rw [workL_len (by omega) (by omega) (by omega) hsc h30]
    omega
theorem fresh_of {L : List Pt} (h : (L.map (·.2)).Nodup) {k : Nat} (hk : k < L.length) : L[k].2 ∉ (L.take k).map (·.2) := by
  intro hm
  obtain ⟨d, hd, he⟩ := List.mem_map.1 hm
  obtain ⟨i, hi, rfl⟩ := List.getElem_of_mem hd
  rw [List.length_take] at hi
  rw [List.getElem_take] at he
  have h1 : (L.map (·.2))[i]'(by rw [List.length_map]; omega) = (L.map (·.2))[k]'(by rw [List.length_map]; omega) := by simpa using he
  exact (List.pairwise_iff_getElem.1 h) i k (by rw [List.length_map]; omega) (by rw [List.length_map]; omega) (by omega) h1
theorem sum_set (l : List Int) {i : Nat} (hi : i < l.length) (x : Int) : (l.set i x).sum = l.sum - l[i] + x := by
  have e1 : l = l.take i ++ l[i] :: l.drop (i + 1) := by rw [← List.drop_eq_getElem_cons hi, List.take_append_drop]
  have e2 : l.set i x = l.take i ++ x :: l.drop (i + 1) := List.set_eq_take_append_cons_drop.trans (by rw [if_pos hi])
  have h1 : l.sum = (l.take i).sum + (l[i] + (l.drop (i + 1)).sum) := by
    conv => lhs; rw [e1]
    rw [List.sum_append, List.sum_cons]
  rw [e2, List.sum_append, List.sum_cons, h1]
  omega
theorem shareL_sum {W : Nat} : ∀ (L : List Pt), (∀ d ∈ L, 0 ≤ d.1 ∧ d.1 < W) → (shareL W L).sum = (L.length : Int) := by
  intro L
  induction h : L.length generalizing L with
  | zero =>
    intro h0
    clear h0
    obtain rfl : L = [] := List.eq_nil_of_length_eq_zero h
    rw [shareL_nil]
    clear h
    induction W with
    | zero => rfl
    | succ W ih => rw [List.replicate_succ, List.sum_cons, ih]; rfl
  | succ n ih =>
    intro hd
    have hne : L ≠ [] := by intro hh; rw [hh] at h; simp at h
    have e : L = L.dropLast ++ [L.getLast hne] := (List.dropLast_concat_getLast hne).symm
    have hlast := hd _ (List.getLast_mem hne)
    have hdl : L.dropLast.length = n := by simp [h]
    have hi := ih L.dropLast hdl (fun d hd' => hd d ((List.dropLast_sublist L).subset hd'))
    have hs := shareL_snoc (W := W) (r := (L.getLast hne).1.toNat) (L := L.dropLast) (d := L.getLast hne) (by omega) (by omega)
    rw [← e] at hs
    rw [hs, sum_set _ (by rw [shareL_len]; omega), hi]
    omega
theorem shareR_facts {n W : Int} {ts : List Pt} (h : 0 < (shareR n W ts).length) :
    (inB n 0 16 = true ∧ wvB W ts = true) ∧ shareR n W ts = shareL W.toNat (workR n W ts) ∧ (shareR n W ts).sum = n ∧ ((shareR n W ts).length : Int) = W := by
  have hv : inB n 0 16 = true ∧ wvB W ts = true := by
    unfold shareR at h
    split at h
    · rename_i h1; simpa using h1
    · simp at h
  have e : workR n W ts = workL W.toNat n.toNat ts := by unfold workR; rw [hv.1, hv.2]; rfl
  have e2 : shareR n W ts = shareL W.toNat (workL W.toNat n.toNat ts) := by unfold shareR; rw [hv.1, hv.2]; rfl
  have hn := inB_iff.1 hv.1
  obtain ⟨hW, h30, hsc⟩ := wvB_sc hv.2
  refine ⟨hv, by rw [e2, e], ?_, ?_⟩
  · rw [e2, shareL_sum _ (workL_workers (by omega) hsc), workL_len (by omega) (by omega) (by omega) hsc h30]; omega
  · rw [e2, shareL_len]; omega
/-- Without a script the shares are fair. -/
def fairB (n W : Nat) : Bool := (shareL W (workL W n [])).all fun x => decide (x ≤ (shareL W (workL W n [])).headD 0) && decide ((shareL W (workL W n [])).headD 0 - x ≤ 1)
theorem fair_all : ((List.range 17).all fun n => (List.range 5).all fun W => W == 0 || fairB n W) = true := by decide +kernel
theorem one_all : ((List.range 17).all fun n => decide (shareL 1 (workL 1 n []) = [(n : Int)])) = true := by decide +kernel
theorem fair_of {n W : Nat} (hn : n ≤ 16) (h1 : 1 ≤ W) (h4 : W ≤ 4) : ∀ x ∈ shareL W (workL W n []), x ≤ (shareL W (workL W n [])).headD 0 ∧ (shareL W (workL W n [])).headD 0 - x ≤ 1 := by
  have h := List.all_eq_true.1 (List.all_eq_true.1 fair_all n (List.mem_range.2 (by omega))) W (List.mem_range.2 (by omega))
  simp only [Bool.or_eq_true, beq_iff_eq, show ¬ W = 0 by omega, false_or] at h
  intro x hx
  have := List.all_eq_true.1 h x hx
  simpa using this
theorem one_of {n : Nat} (hn : n ≤ 16) : shareL 1 (workL 1 n []) = [(n : Int)] := by
  have := List.all_eq_true.1 one_all n (List.mem_range.2 (by omega))
  simpa using this
end Go.Proofs.Ytnmnomhoghkdjaa
