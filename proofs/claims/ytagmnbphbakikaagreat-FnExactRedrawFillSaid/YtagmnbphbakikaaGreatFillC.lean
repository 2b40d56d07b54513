/-
  Rows of fills as sources of appends, in a row of one's own, and with one replaced.
-/
import Derived.Test.YtagmnbphbakikaaGreatMg10
namespace Go.Proofs.YtagmnbphbakikaaGreat
open Go Go.RowKit Reg
attribute [local go_sem] calmAt calmUpon
theorem flR_len {w : World} {x : FlD} {us : List Value} (h : flR w x us) : us.length = 7 := by
  obtain ⟨A1, c1, A2, c2, rfl, _⟩ := h; rfl
theorem flR_one {w : World} {x : FlD} {us : List Value} (h : flR w x us) : ∀ u ∈ us, u.oneCell' = true := by
  obtain ⟨A1, c1, A2, c2, rfl, _⟩ := h
  intro u hu
  simp only [flC, List.mem_cons, List.not_mem_nil, or_false] at hu
  rcases hu with rfl | rfl | rfl | rfl | rfl | rfl | rfl <;> rfl
/-- Rows of seven cells each. -/
def Cells7 (w : World) (fs : List FlD) (uss : List (List Value)) : Prop := uss.length = fs.length ∧ ∀ (k : Nat) (h1 : k < uss.length) (h2 : k < fs.length), flR w fs[k] uss[k]
theorem Cells7.ext {w w' : World} {fs : List FlD} {uss : List (List Value)} (h : Cells7 w fs uss) (hx : Ext w w') : Cells7 w' fs uss := ⟨h.1, fun k h1 h2 => flR_stab _ _ _ _ (h.2 k h1 h2) hx⟩
theorem Cells7.set {w : World} {fs : List FlD} {uss : List (List Value)} (h : Cells7 w fs uss) (k : Nat) {x : FlD} {us : List Value} (hx : flR w x us) : Cells7 w (fs.set k x) (uss.set k us) := by
  refine ⟨by rw [List.length_set, List.length_set]; exact h.1, fun j h1 h2 => ?_⟩
  simp only [List.length_set] at h1 h2
  rw [List.getElem_set, List.getElem_set]
  split
  · exact hx
  · exact h.2 j h1 h2
theorem flat7_len : ∀ {uss : List (List Value)}, (∀ us ∈ uss, us.length = 7) → uss.flatten.length = uss.length * 7
  | [], _ => rfl
  | us :: uss, h => by
    rw [List.flatten_cons, List.length_append, flat7_len (fun x hx => h x (List.mem_cons_of_mem _ hx)), h us (by simp), List.length_cons]; omega
theorem flat7_get : ∀ {uss : List (List Value)}, (∀ us ∈ uss, us.length = 7) → ∀ (k : Nat) (h : k < uss.length) (j : Nat), j < 7 → uss.flatten[k * 7 + j]? = uss[k][j]?
  | us :: uss, h, 0, _, j, hj => by
    rw [List.flatten_cons, List.getElem?_append_left (by rw [h us (by simp)]; omega)]; simp
  | us :: uss, h, k + 1, hk, j, hj => by
    have hl := h us (by simp)
    rw [List.flatten_cons, List.getElem?_append_right (by omega), hl, show (k + 1) * 7 + j - 7 = k * 7 + j by omega]
    simp only [List.getElem_cons_succ]
    exact flat7_get (fun x hx => h x (List.mem_cons_of_mem _ hx)) k (by simpa using hk) j hj
theorem flat7_set (u0 u1 u2 u3 u4 u5 u6 : Value) : ∀ (uss : List (List Value)), (∀ us ∈ uss, us.length = 7) → ∀ k : Nat,
    (((((((uss.flatten.set (k * 7) u0).set (k * 7 + 1) u1).set (k * 7 + 2) u2).set (k * 7 + 3) u3).set (k * 7 + 4) u4).set (k * 7 + 5) u5).set (k * 7 + 6) u6) = (uss.set k [u0, u1, u2, u3, u4, u5, u6]).flatten
  | [], _, k => by simp
  | us :: uss, h, 0 => by
    match us, h us (by simp) with
    | [a0, a1, a2, a3, a4, a5, a6], _ => simp
  | us :: uss, h, k + 1 => by
    have ih := flat7_set u0 u1 u2 u3 u4 u5 u6 uss (fun x hx => h x (List.mem_cons_of_mem _ hx)) k
    have hl := h us (by simp)
    rw [List.flatten_cons, List.set_cons_succ, List.flatten_cons, ← ih]
    rw [List.set_append_right _ _ (by omega), List.set_append_right _ _ (by omega), List.set_append_right _ _ (by omega), List.set_append_right _ _ (by omega), List.set_append_right _ _ (by omega), List.set_append_right _ _ (by omega), List.set_append_right _ _ (by omega), hl]
    have e0 : (k + 1) * 7 - 7 = k * 7 := by omega
    have e1 : (k + 1) * 7 + 1 - 7 = k * 7 + 1 := by omega
    have e2 : (k + 1) * 7 + 2 - 7 = k * 7 + 2 := by omega
    have e3 : (k + 1) * 7 + 3 - 7 = k * 7 + 3 := by omega
    have e4 : (k + 1) * 7 + 4 - 7 = k * 7 + 4 := by omega
    have e5 : (k + 1) * 7 + 5 - 7 = k * 7 + 5 := by omega
    have e6 : (k + 1) * 7 + 6 - 7 = k * 7 + 6 := by omega
    rw [e0, e1, e2, e3, e4, e5, e6]
theorem Cells7.all {w : World} {fs : List FlD} {uss : List (List Value)} (h : Cells7 w fs uss) : ∀ us ∈ uss, us.length = 7 := by
  intro us hu
  obtain ⟨k, hk, rfl⟩ := List.getElem_of_mem hu
  exact flR_len (h.2 k hk (by have := h.1; omega))
/-- The cells of a row of fills. -/
theorem fls_src {w : World} {A : Option Addr} {fs : List FlD} (h : Fls w A fs) : ∃ uss : List (List Value), Cells7 w fs uss ∧ Src w A fs.length 7 uss.flatten := by
  rcases Nat.eq_zero_or_pos fs.length with h0 | hn
  · have hf : fs = [] := List.eq_nil_of_length_eq_zero h0
    subst hf
    exact ⟨[], ⟨rfl, fun k h1 => absurd h1 (by simp)⟩, rfl, fun _ => rfl, fun ad _ j u hu => by simp at hu, by simp⟩
  · obtain ⟨b, off, hA, hc⟩ := h hn
    subst hA
    have hpick : ∃ f : Fin fs.length → List Value, ∀ i : Fin fs.length, flR w fs[i.val] (f i) ∧ ∀ (j : Nat) u, (f i)[j]? = some u → w.cell? ⟨b, off + i.val * 7 + j, none⟩ = some u :=
      ⟨fun i => Classical.choose (hc i.val i.isLt), fun i => ⟨(Classical.choose_spec (hc i.val i.isLt)).1, (Classical.choose_spec (hc i.val i.isLt)).2.2⟩⟩
    obtain ⟨f, hf⟩ := hpick
    have C : Cells7 w fs (List.ofFn f) := ⟨by simp, fun k h1 h2 => by simpa using (hf ⟨k, h2⟩).1⟩
    refine ⟨List.ofFn f, C, by rw [flat7_len C.all]; simp, (fun h => by cases h), fun ad had j u hu => ?_, fun u hu => ?_⟩
    · injection had with had
      subst had
      have hj : j < fs.length * 7 := by
        have := (List.getElem?_eq_some_iff.1 hu).1
        rw [flat7_len C.all] at this; simpa using this
      obtain ⟨q, r, rfl, hr⟩ : ∃ q r, j = q * 7 + r ∧ r < 7 := ⟨j / 7, j % 7, by omega, by omega⟩
      have hq : q < fs.length := by omega
      rw [flat7_get C.all q (by simpa using hq) r hr] at hu
      have e1 : (⟨b, off, none⟩ : Addr).add (q * 7 + r) = ⟨b, off + (q * 7 + r), none⟩ := by
        unfold Addr.add; split
        · rename_i h; rw [h]; rfl
        · rfl
      rw [e1, show off + (q * 7 + r) = off + q * 7 + r by omega]
      exact (hf ⟨q, hq⟩).2 r u (by simpa using hu)
    · obtain ⟨us, hus, hu'⟩ := List.mem_flatten.1 hu
      obtain ⟨i, hi, rfl⟩ := List.getElem_of_mem hus
      exact flR_one (C.2 i hi (by have := C.1; omega)) u hu'
/-- An owned row of cells reads as fills. -/
theorem cells7_fls {w : World} {B : Nat} {e : TypeId} {A : Option Addr} {n cap : Nat} {fs : List FlD} {uss : List (List Value)} (hC : Cells7 w fs uss) (hn : n = fs.length) (ho : Has w B e 7 (.slice A n cap) n uss.flatten) : Fls w A fs := by
  subst hn
  intro hn
  obtain ⟨g, hA, _, _⟩ := own_at ho hn
  subst hA
  have hl := hC.1
  refine ⟨g, 0, rfl, fun k hk => ⟨uss[k]'(by omega), hC.2 k (by omega) hk, flR_len (hC.2 k (by omega) hk), fun j u hu => ?_⟩⟩
  have hj : j < 7 := by
    have := (List.getElem?_eq_some_iff.1 hu).1
    rw [flR_len (hC.2 k (by omega) hk)] at this; exact this
  rw [Nat.zero_add, ho.cellAt (k * 7 + j) (by omega), flat7_get hC.all k (by omega) j hj]
  exact hu
def setF (w : World) (g k : Nat) (u0 u1 u2 u3 u4 u5 u6 : Value) : World := ((((((w.setCell ⟨g, k * 7, none⟩ u0).setCell ⟨g, k * 7 + 1, none⟩ u1).setCell ⟨g, k * 7 + 2, none⟩ u2).setCell ⟨g, k * 7 + 3, none⟩ u3).setCell ⟨g, k * 7 + 4, none⟩ u4).setCell ⟨g, k * 7 + 5, none⟩ u5).setCell ⟨g, k * 7 + 6, none⟩ u6
theorem Has.putF {w : World} {B g n cap : Nat} {e : TypeId} {uss : List (List Value)} (h : Has w B e 7 (.slice (some ⟨g, 0, none⟩) n cap) n uss.flatten) (h7 : ∀ us ∈ uss, us.length = 7) (k : Nat) (u0 u1 u2 u3 u4 u5 u6 : Value) :
    Has (setF w g k u0 u1 u2 u3 u4 u5 u6) B e 7 (.slice (some ⟨g, 0, none⟩) n cap) n (uss.set k [u0, u1, u2, u3, u4, u5, u6]).flatten ∧ w.grownBy (setF w g k u0 u1 u2 u3 u4 u5 u6) (some g) := by
  rw [← flat7_set u0 u1 u2 u3 u4 u5 u6 uss h7 k]
  exact ⟨(((((((h.stored (k * 7) u0).1.stored (k * 7 + 1) u1).1.stored (k * 7 + 2) u2).1.stored (k * 7 + 3) u3).1.stored (k * 7 + 4) u4).1.stored (k * 7 + 5) u5).1.stored (k * 7 + 6) u6).1,
    only_set (only_set (only_set (only_set (only_set (only_set (only_set (only_refl w (some g)) (k * 7) u0) (k * 7 + 1) u1) (k * 7 + 2) u2) (k * 7 + 3) u3) (k * 7 + 4) u4) (k * 7 + 5) u5) (k * 7 + 6) u6⟩
/-- The cells that a fill of an owned row has. -/
theorem Has.atF {w : World} {B g n cap k : Nat} {e : TypeId} {cs : List Value} (h : Has w B e 7 (.slice (some ⟨g, 0, none⟩) n cap) n cs) (hk : k < n) :
    (∃ u, w.cell? ⟨g, k * 7, none⟩ = some u) ∧ (∃ u, w.cell? ⟨g, k * 7 + 1, none⟩ = some u) ∧ (∃ u, w.cell? ⟨g, k * 7 + 2, none⟩ = some u) ∧ (∃ u, w.cell? ⟨g, k * 7 + 3, none⟩ = some u) ∧ (∃ u, w.cell? ⟨g, k * 7 + 4, none⟩ = some u) ∧ (∃ u, w.cell? ⟨g, k * 7 + 5, none⟩ = some u) ∧ ∃ u, w.cell? ⟨g, k * 7 + 6, none⟩ = some u := by
  have hl := h.1
  have hz : ∀ j, j < n * 7 → ∃ u, w.cell? ⟨g, j, none⟩ = some u := fun j hj => ⟨_, by rw [h.cellAt j hj]; exact List.getElem?_eq_getElem (by omega)⟩
  exact ⟨hz _ (by omega), hz _ (by omega), hz _ (by omega), hz _ (by omega), hz _ (by omega), hz _ (by omega), hz _ (by omega)⟩

set_option maxHeartbeats 1000000 in
theorem c_Clone_ei_fl (A : Option Addr) (n cap : Nat) (cs : List Value) (w : World) (h : Src w A n 7 cs) (hs : SlOk A n cap) (hn : n ≤ 1048576) :
    Calls Tryz.prog 38 #[.slice A n cap] w fun e w' => ∃ A' cap', e = .returned (.slice A' n cap') ∧ SlOk A' n cap' ∧ Has w' w.heap.size 50 7 (.slice A' n cap') n cs ∧ Below w.heap.size w w' := by
  cases A with
  | none =>
    obtain ⟨rfl, rfl⟩ := hs.1 rfl
    have hcs : cs = [] := List.eq_nil_of_length_eq_zero (by simpa using h.1)
    subst hcs
    have hq := fun W => Lib.run_eql_slice_nil (P := Tryz.prog) W 40 50 none 0 0 0 0 Tryz.underlying40
    go_enter Tryz.func38, Tryz.ntmps38
    go_wp2
    go_ret
    exact ⟨none, 0, rfl, ⟨fun _ => ⟨rfl, rfl⟩, by simp, by simp⟩, own_nil _ _ _ _, Below.refl _ _⟩
  | some ad =>
    have hq := fun W => Lib.run_eql_slice_nil (P := Tryz.prog) W 40 50 (some ad) n cap 0 0 Tryz.underlying40
    go_enter Tryz.func38, Tryz.ntmps38
    go_wp2_with (at_builtin; refine wpList_app (base := w.heap.size) ei_fl rfl (.tmp 5) (.tmp 6) rfl rfl (own_of_row (n := 0) (cs := []) (Row.new w _ []) (Nat.le_refl _) rfl (by decide)) rfl (h.ext (ext_alloc _ _)) (by omega) (by simp) ?_; intro v2 w3 hown3 hg3 hat3)
    obtain ⟨A2, cap2, hv2⟩ := own_form hown3
    have hb : Below w.heap.size w w3 := own_below (ext_alloc w _) (own_of_row (n := 0) (sz := 7) (cs := []) (Row.new w 50 []) (Nat.le_refl _) rfl (by decide)) hg3 (by simp)
    subst hv2
    go_wp2
    go_ret
    refine ⟨A2, cap2, by simp, by simpa using hown3.slok, by simpa using hown3, hb⟩
end Go.Proofs.YtagmnbphbakikaaGreat
