/-
  Verbs given: their sizes, and copies of them, each with points of its own.
-/
import Derived.Test.YtalicpgnjpgloaaMg3
namespace Go.Proofs.Ytalicpgnjpgloaa
open Go Go.RowKit Reg
attribute [local go_sem] calmAt calmUpon
theorem zipC_put {vs : List Vb} {ss : List Value} (h : ss.length = vs.length) {k : Nat} (hk : k < vs.length) (v : Vb) (s : Value) : ((zipC vs ss).set (k * 2) (.int .i64 v.1)).set (k * 2 + 1) s = zipC (vs.set k v) (ss.set k s) := by
  rw [zipC_set h hk v]
  apply List.ext_getElem?
  intro i
  have hl1 := zipC_len (vs := vs.set k v) (ss := ss) (by simpa using h)
  have hl2 := zipC_len (vs := vs.set k v) (ss := ss.set k s) (by simpa using h)
  rw [List.length_set] at hl1 hl2
  rcases Nat.lt_or_ge i (vs.length * 2) with hi | hi
  · have hj : i / 2 < vs.length := by omega
    obtain ⟨a1, a2⟩ := zipC_get (vs := vs.set k v) (ss := ss) (by simpa using h) (k := i / 2) (by simpa using hj)
    obtain ⟨b1, b2⟩ := zipC_get (vs := vs.set k v) (ss := ss.set k s) (by simpa using h) (k := i / 2) (by simpa using hj)
    rw [List.getElem?_set]
    rcases Nat.mod_two_eq_zero_or_one i with hm | hm
    · have e : i / 2 * 2 = i := by omega
      rw [e] at a1 b1
      rw [if_neg (by omega), a1, b1]
    · have e : i / 2 * 2 + 1 = i := by omega
      rw [e] at a2 b2
      by_cases hki : k * 2 + 1 = i
      · have hk2 : i / 2 = k := by omega
        rw [if_pos hki, if_pos (by omega), b2]
        simp [hk2]
      · rw [if_neg hki, a2, b2]
        have : k ≠ i / 2 := by omega
        simp [List.getElem_set_ne this]
  · rw [List.getElem?_eq_none (by simp; omega), List.getElem?_eq_none (by omega)]
section
variable {w w' : World} {B : Nat} {TP TV : TypeId} {vs : List Vb} {ss : List Value}
/-- Verb k is stored anew, its points in a newer row. -/
theorem OVb.put {g cap k B' : Nat} {q : Int} {ps : List Pt} {s : Value} (h : OVb w B TP TV (.slice (some ⟨g, 0, none⟩) vs.length cap) vs ss) (hT : TP ≠ TV) (hk : k < vs.length)
    (ho : Has w B' TP 2 s ps.length (ps.flatMap ptC)) (hB : B ≤ B') (hlt : ∀ (i : Nat) (hi : i < ss.length) b, ss[i].ownBlock = some b → b < B') :
    OVb ((w.setCell ⟨g, k * 2, none⟩ (.int .i64 q)).setCell ⟨g, k * 2 + 1, none⟩ s) B TP TV (.slice (some ⟨g, 0, none⟩) vs.length cap) (vs.set k (q, ps)) (ss.set k s) := by
  have hl := h.len
  have h1 := h.out.stored (k * 2) (.int .i64 q)
  have h2 := h1.1.stored (k * 2 + 1) s
  rw [zipC_put hl hk (q, ps) s] at h2
  refine ⟨by simp [hl], by rw [List.length_set]; exact h2.1, fun i hi => ?_, fun i j hi hj hij => ?_⟩
  · rw [List.length_set] at hi
    by_cases hik : k = i
    · subst hik
      simp only [List.getElem_set_self]
      have e1 : s.ownBlock = none ∨ s.ownBlock ≠ some g := by
        have := own_ne ho h.out hT
        simpa [Value.ownBlock] using this
      exact ((ho.kept h1.2 e1).kept h2.2 e1).rebase hB
    · simp only [List.getElem_set_ne hik]
      have e1 := own_ne (h.inn i hi) h.out hT
      have e2 : ss[i].ownBlock = none ∨ ss[i].ownBlock ≠ some g := by simpa [Value.ownBlock] using e1
      exact ((h.inn i hi).kept h1.2 e2).kept h2.2 e2
  · rw [List.length_set] at hi hj
    have hold : ∀ (q : Nat) (hq : q < ss.length), ss[q].ownBlock = none ∨ ss[q].ownBlock ≠ s.ownBlock := fun q hq => by
      cases hc : ss[q].ownBlock with
      | none => exact .inl rfl
      | some b => exact .inr fun hh => by have q1 := hlt q hq b hc; have q2 := (ho.lt b hh.symm).1; omega
    by_cases c1 : k = i
    · subst c1
      rw [List.getElem_set_self, List.getElem_set_ne hij]
      cases hc : s.ownBlock with
      | none => exact .inl rfl
      | some b => exact .inr fun hh => by have q1 := hlt j hj b hh.symm; have q2 := (ho.lt b hc).1; omega
    · by_cases c2 : k = j
      · subst c2
        rw [List.getElem_set_self, List.getElem_set_ne (Ne.symm hij)]
        exact hold i hi
      · rw [List.getElem_set_ne c1, List.getElem_set_ne c2]
        exact h.nd i j hi hj hij
theorem OVb.blk {v : Value} (h : OVb w B TP TV v vs ss) : ∀ (i : Nat) (hi : i < ss.length) g, ss[i].ownBlock = some g → B ≤ g ∧ g < w.heap.size := fun i hi g hg =>
  (h.inn i (by rw [← h.len]; exact hi)).lt g hg
end
/-! ### verbs whose points' slices are sound -/
def verbK : World → Vb → List Value → Prop := fun w v us => ∃ A cap, us = [.int .i64 v.1, .slice A v.2.length cap] ∧ Pts w A v.2 ∧ SlOk A v.2.length cap
theorem verbK_stab : Stab verbK := by
  rintro w w' v us ⟨A, cap, h1, h2, h3⟩ hx
  exact ⟨A, cap, h1, h2.ext ptR_stab hx, h3⟩
abbrev VbK (w : World) (A : Option Addr) (vs : List Vb) : Prop := In verbK 2 w A vs
theorem In.toV {w : World} {A : Option Addr} {vs : List Vb} (h : VbK w A vs) : Vbs w A vs := by
  intro hn
  obtain ⟨b, off, hA, hc⟩ := h hn
  refine ⟨b, off, hA, fun k hk => ?_⟩
  obtain ⟨us, ⟨A', cap, h1, h2, _⟩, h3⟩ := hc k hk
  exact ⟨us, ⟨A', cap, h1, h2⟩, h3⟩
theorem In.vbk {w : World} {A : Option Addr} {vs : List Vb} (h : VbK w A vs) (hn : 0 < vs.length) : ∃ b off, A = some ⟨b, off, none⟩ ∧ b < w.heap.size ∧
    ∀ (k : Nat) (h : k < vs.length), ∃ A' cap, w.cell? ⟨b, off + k * 2, none⟩ = some (.int .i64 vs[k].1) ∧ w.cell? ⟨b, off + k * 2 + 1, none⟩ = some (.slice A' vs[k].2.length cap) ∧ Pts w A' vs[k].2 ∧ SlOk A' vs[k].2.length cap := by
  have hlt := h.lt (by omega) hn
  obtain ⟨b, off, hA, hc⟩ := h hn
  refine ⟨b, off, hA, hlt b off hA, fun k hk => ?_⟩
  obtain ⟨us, ⟨A', cap, h1, h2, h4⟩, _, h3⟩ := hc k hk
  subst h1
  exact ⟨A', cap, h3 0 _ rfl, h3 1 _ rfl, h2, h4⟩
theorem OVb.inK {w : World} {B : Nat} {TP TV : TypeId} {vs : List Vb} {ss : List Value} {A : Option Addr} {cap : Nat} (h : OVb w B TP TV (.slice A vs.length cap) vs ss) : VbK w A vs := by
  intro hn
  obtain ⟨g, hA, _, _⟩ := own_at h.out hn
  subst hA
  refine ⟨g, 0, rfl, fun k hk => ?_⟩
  have hi := h.inn k hk
  obtain ⟨A', cap', hs⟩ := own_form hi
  rw [hs] at hi
  obtain ⟨z0, z1⟩ := zipC_get h.len hk
  refine ⟨[.int .i64 vs[k].1, .slice A' vs[k].2.length cap'], ⟨A', cap', rfl, own_in (enc := ptC) ptC_len (by decide) hi (fun _ => rfl), hi.slok⟩, rfl, fun j u hu => ?_⟩
  rw [Nat.zero_add]
  match j, hu with
  | 0, hu =>
    simp at hu; subst hu
    rw [Nat.add_zero, h.out.cellAt _ (by omega), z0]
  | 1, hu =>
    simp at hu; subst hu
    rw [h.out.cellAt _ (by omega), z1, hs]
abbrev nilSV : Value := .slice none 0 0
/-- The first k verbs, and empty ones behind them. -/
def vbTo (vs : List Vb) (k : Nat) : List Vb := vs.take k ++ List.replicate (vs.length - k) (0, [])
theorem vbTo_len {vs : List Vb} {k : Nat} (h : k ≤ vs.length) : (vbTo vs k).length = vs.length := by simp [vbTo]; omega
theorem vbTo_all (vs : List Vb) : vbTo vs vs.length = vs := by simp [vbTo]
theorem vbTo_set {vs : List Vb} {k : Nat} (h : k < vs.length) : (vbTo vs k).set k vs[k] = vbTo vs (k + 1) := by
  unfold vbTo
  have e : vs.length - k = (vs.length - (k + 1)) + 1 := by omega
  have e2 : (vs.take k).length = k := by rw [List.length_take]; omega
  rw [List.set_append_right _ _ (by omega), e2, Nat.sub_self, e, List.replicate_succ, List.set_cons_zero, List.take_succ_eq_append_getElem h, List.append_assoc]; rfl
theorem vbTo_get {vs : List Vb} {k : Nat} (h : k < vs.length) : (vbTo vs k)[k]'(by rw [vbTo_len (by omega)]; exact h) = (0, []) := by
  unfold vbTo
  have e2 : (vs.take k).length = k := by rw [List.length_take]; omega
  rw [List.getElem_append_right (by omega)]
  simp
theorem zipC_zero (n : Nat) : zipC (List.replicate n ((0, []) : Vb)) (List.replicate n nilSV) = (List.replicate n [Value.int .i64 0, nilSV]).flatten := by
  induction n with
  | zero => rfl
  | succ n ih => simp only [List.replicate_succ, zipC, List.zip_cons_cons, List.flatMap_cons, List.flatten_cons] at *; rw [ih]
/-- A row of empty verbs, just made. -/
theorem OVb.made {w : World} {B g n : Nat} {TP TV : TypeId} (h : Row w g TV (List.replicate n [Value.int .i64 0, nilSV]).flatten) (hB : B ≤ g) (hn : n ≤ 1000000000000) : OVb w B TP TV (.slice (some ⟨g, 0, none⟩) n n) (List.replicate n (0, [])) (List.replicate n nilSV) := by
  refine ⟨by simp, ?_, fun i hi => ?_, fun i j hi hj hij => ?_⟩
  · rw [zipC_zero, List.length_replicate]
    exact own_of_row h hB (by simp [List.length_flatten]) hn
  · simp only [List.getElem_replicate]; exact own_nil _ _ _ _
  · simp only [List.getElem_replicate]; exact .inl rfl
theorem vbTo_zero (vs : List Vb) : vbTo vs 0 = List.replicate vs.length (0, []) := by simp [vbTo]
/-- How many points verbs have together. -/
def vbSum (vs : List Vb) : Nat := (vs.map (fun v => v.2.length)).sum
theorem vbSum_take {vs : List Vb} {k : Nat} (h : k < vs.length) : vbSum (vs.take (k + 1)) = vbSum (vs.take k) + vs[k].2.length := by
  unfold vbSum
  rw [List.take_succ_eq_append_getElem h, List.map_append, List.sum_append]
  simp
theorem vbSum_le (vs : List Vb) (k : Nat) : vbSum (vs.take k) ≤ vbSum vs := by
  have : vbSum vs = vbSum (vs.take k) + vbSum (vs.drop k) := by
    unfold vbSum
    rw [← List.sum_append, ← List.map_append, List.take_append_drop]
  omega
theorem vbSum_mem {vs : List Vb} {v : Vb} (h : v ∈ vs) : v.2.length ≤ vbSum vs := by
  obtain ⟨k, hk, rfl⟩ := List.getElem_of_mem h
  have h1 := vbSum_take hk
  have h2 := vbSum_le vs (k + 1)
  omega
theorem endV_eq (k : Int) (vs : List Vb) : endV k vs = k + (vs.length : Int) + 2 * (vbSum vs : Nat) := by
  induction vs generalizing k with
  | nil => simp [endV, vbSum]
  | cons v vs ih =>
    rw [endV, ih]
    have : vbSum (v :: vs) = v.2.length + vbSum vs := by simp [vbSum]
    rw [this, List.length_cons]
    push_cast
    omega
end Go.Proofs.Ytalicpgnjpgloaa
