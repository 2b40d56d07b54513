/-
  Verbs, as they are read and as they are owned: each with points of its own.
-/
import Derived.Test.YteknlifgejpjfaaLib
namespace Go.Proofs.Yteknlifgejpjfaa
open Go Go.RowKit Reg

abbrev Vb := Int × List Pt
theorem ptC_len (p : Pt) : (ptC p).length = 2 := rfl
theorem ptC_one (p : Pt) : ∀ u ∈ ptC p, u.oneCell' = true := by intro u hu; simp [ptC] at hu; rcases hu with rfl | rfl <;> rfl
/-- Are two verbs the same? -/
def vbEq (x y : Vb) : Bool := decide (x = y)
theorem vbEq_iff {x y : Vb} : vbEq x y = true ↔ x = y := by simp [vbEq]
def verbR : World → Vb → List Value → Prop := fun w v us => ∃ A cap, us = [.int .i64 v.1, .slice A v.2.length cap] ∧ Pts w A v.2
theorem verbR_stab : Stab verbR := by
  rintro w w' v us ⟨A, cap, h1, h2⟩ hx
  exact ⟨A, cap, h1, h2.ext ptR_stab hx⟩
abbrev Vbs (w : World) (A : Option Addr) (vs : List Vb) : Prop := In verbR 2 w A vs

theorem In.vbs {w : World} {A : Option Addr} {vs : List Vb} (h : Vbs w A vs) (hn : 0 < vs.length) : ∃ b off, A = some ⟨b, off, none⟩ ∧ b < w.heap.size ∧
    ∀ (k : Nat) (h : k < vs.length), ∃ A' cap, w.cell? ⟨b, off + k * 2, none⟩ = some (.int .i64 vs[k].1) ∧ w.cell? ⟨b, off + k * 2 + 1, none⟩ = some (.slice A' vs[k].2.length cap) ∧ Pts w A' vs[k].2 := by
  have hlt := h.lt (by omega) hn
  obtain ⟨b, off, hA, hc⟩ := h hn
  refine ⟨b, off, hA, hlt b off hA, fun k hk => ?_⟩
  obtain ⟨us, ⟨A', cap, h1, h2⟩, _, h3⟩ := hc k hk
  subst h1
  exact ⟨A', cap, h3 0 _ rfl, h3 1 _ rfl, h2⟩

def zipC (vs : List Vb) (ss : List Value) : List Value := (vs.zip ss).flatMap fun x => [.int .i64 x.1.1, x.2]
theorem zipC_append {vs vs' : List Vb} {ss ss' : List Value} (h : vs.length = ss.length) : zipC (vs ++ vs') (ss ++ ss') = zipC vs ss ++ zipC vs' ss' := by
  unfold zipC
  rw [List.zip_append h, List.flatMap_append]
theorem zipC_len {vs : List Vb} {ss : List Value} (h : ss.length = vs.length) : (zipC vs ss).length = vs.length * 2 := by
  unfold zipC
  rw [flat_len (sz := 2) (fun _ => rfl), List.length_zip, h, Nat.min_self]
theorem zipC_get {vs : List Vb} {ss : List Value} (h : ss.length = vs.length) {k : Nat} (hk : k < vs.length) : (zipC vs ss)[k * 2]? = some (.int .i64 vs[k].1) ∧ (zipC vs ss)[k * 2 + 1]? = some (ss[k]'(by omega)) := by
  have hz : k < (vs.zip ss).length := by rw [List.length_zip]; omega
  have q := fun j hj => flat_get (enc := fun x : Vb × Value => [.int .i64 x.1.1, x.2]) (sz := 2) (fun _ => rfl) (vs.zip ss) [] k hz j hj
  simp only [List.append_nil] at q
  unfold zipC
  exact ⟨by have := q 0 (by decide); simpa using this, by have := q 1 (by decide); simpa using this⟩
theorem zipC_set {vs : List Vb} {ss : List Value} (h : ss.length = vs.length) {k : Nat} (_hk : k < vs.length) (v : Vb) : (zipC vs ss).set (k * 2) (.int .i64 v.1) = zipC (vs.set k v) ss := by
  apply List.ext_getElem?
  intro i
  have hl1 := zipC_len h
  have hl2 := zipC_len (vs := vs.set k v) (ss := ss) (by simpa using h)
  rw [List.length_set] at hl2
  rcases Nat.lt_or_ge i (vs.length * 2) with hi | hi
  · have hj : i / 2 < vs.length := by omega
    obtain ⟨a1, a2⟩ := zipC_get h hj
    obtain ⟨b1, b2⟩ := zipC_get (vs := vs.set k v) (ss := ss) (by simpa using h) (k := i / 2) (by simpa using hj)
    rw [List.getElem?_set]
    rcases Nat.mod_two_eq_zero_or_one i with hm | hm
    · have e : i / 2 * 2 = i := by omega
      rw [e] at a1 b1
      by_cases hki : k * 2 = i
      · have hk2 : i / 2 = k := by omega
        rw [if_pos hki, if_pos (by omega), b1]
        simp [hk2]
      · rw [if_neg hki, a1, b1]
        have : k ≠ i / 2 := by omega
        simp [List.getElem_set_ne this]
    · have e : i / 2 * 2 + 1 = i := by omega
      rw [e] at a2 b2
      rw [if_neg (by omega), a2, b2]
  · rw [List.getElem?_eq_none (by simp; omega), List.getElem?_eq_none (by omega)]

/-- v is a row of verbs of one's own; ss: their points' slices, each a row of its own. -/
structure OVb (w : World) (B : Nat) (TP TV : TypeId) (v : Value) (vs : List Vb) (ss : List Value) : Prop where
  len : ss.length = vs.length
  out : Has w B TV 2 v vs.length (zipC vs ss)
  inn : ∀ (i : Nat) (h : i < vs.length), Has w B TP 2 (ss[i]'(by omega)) vs[i].2.length (vs[i].2.flatMap ptC)
  nd : ∀ (i j : Nat) (hi : i < ss.length) (hj : j < ss.length), i ≠ j → ss[i].ownBlock = none ∨ ss[i].ownBlock ≠ ss[j].ownBlock

section
variable {w w' : World} {B : Nat} {TP TV : TypeId} {v : Value} {vs : List Vb} {ss : List Value}

theorem own_row {e : TypeId} {sz n : Nat} {v : Value} {xs : List Value} (h : Has w B e sz v n xs) {g : Nat} (hg : v.ownBlock = some g) : ∃ cur fz, w.heap[g]? = some (.cells cur e fz) := by
  rcases h.2 with ⟨rfl, _⟩ | ⟨g', cap, cur, rfl, _, h3, _⟩
  · cases hg
  · have : g' = g := by simpa [Value.ownBlock] using hg
    subst this
    exact ⟨_, _, h3⟩
/-- Rows of two element types never share a block. -/
theorem own_ne {e e' : TypeId} {sz sz' n n' : Nat} {v v' : Value} {xs xs' : List Value} (h : Has w B e sz v n xs) {B' : Nat} (h' : Has w B' e' sz' v' n' xs') (hne : e ≠ e') : v.ownBlock = none ∨ v.ownBlock ≠ v'.ownBlock := by
  cases hv : v.ownBlock with
  | none => exact .inl rfl
  | some g =>
    refine .inr fun heq => ?_
    obtain ⟨c, f, h1⟩ := own_row h hv
    obtain ⟨c', f', h2⟩ := own_row h' heq.symm
    rw [h1] at h2
    injection h2 with h2
    injection h2 with _ h3
    exact hne h3

theorem OVb.ext (h : OVb w B TP TV v vs ss) (hx : Ext w w') : OVb w' B TP TV v vs ss := ⟨h.len, own_ext h.out hx, fun i hi => own_ext (h.inn i hi) hx, h.nd⟩
theorem OVb.nil (w : World) (B : Nat) (TP TV : TypeId) : OVb w B TP TV (.slice none 0 0) [] [] := ⟨rfl, own_nil _ _ _ _, fun i hi => by simp at hi, fun i j hi => by simp at hi⟩
theorem OVb.in_ {A : Option Addr} {cap : Nat} (h : OVb w B TP TV (.slice A vs.length cap) vs ss) : Vbs w A vs := by
  intro hn
  obtain ⟨g, hA, _, _⟩ := own_at h.out hn
  subst hA
  refine ⟨g, 0, rfl, fun k hk => ?_⟩
  have hi := h.inn k hk
  obtain ⟨A', cap', hs⟩ := own_form hi
  obtain ⟨z0, z1⟩ := zipC_get h.len hk
  refine ⟨[.int .i64 vs[k].1, .slice A' vs[k].2.length cap'], ⟨A', cap', rfl, own_in (enc := ptC) ptC_len (by decide) (by rw [hs] at hi; exact hi) (fun _ => rfl)⟩, rfl, fun j u hu => ?_⟩
  rw [Nat.zero_add]
  match j, hu with
  | 0, hu =>
    simp at hu; subst hu
    rw [Nat.add_zero, h.out.cellAt _ (by omega), z0]
  | 1, hu =>
    simp at hu; subst hu
    rw [h.out.cellAt _ (by omega), z1, hs]

theorem own_of_row {e : TypeId} {sz g n : Nat} {cs : List Value} (h : Row w g e cs) (hB : B ≤ g) (hl : cs.length = n * sz) (hn : n ≤ 1000000000000) : Has w B e sz (.slice (some ⟨g, 0, none⟩) n n) n cs :=
  ⟨hl, .inr ⟨g, n, cs.toArray, rfl, hB, h, Nat.le_refl _, by simp only [maxLen]; omega, by simp [hl], by rw [← hl]; simp⟩⟩
/-- One more verb, its points in a row that none of the others has. -/
theorem OVb.snoc {v' : Value} {x : Vb} {s : Value} (h : OVb w B TP TV v vs ss) (ho : Has w B TP 2 s x.2.length (x.2.flatMap ptC)) (hT : TP ≠ TV)
    (hf : ∀ (i : Nat) (hi : i < ss.length), (ss[i].ownBlock = none ∨ ss[i].ownBlock ≠ s.ownBlock) ∧ (s.ownBlock = none ∨ s.ownBlock ≠ ss[i].ownBlock))
    (hout : Has w' B TV 2 v' (vs.length + 1) (zipC vs ss ++ [.int .i64 x.1, s])) (hg : w.grownBy w' v.ownBlock) : OVb w' B TP TV v' (vs ++ [x]) (ss ++ [s]) := by
  have hl := h.len
  refine ⟨by simp [hl], ?_, fun i hi => ?_, fun i j hi hj hij => ?_⟩
  · rw [zipC_append hl.symm, List.length_append]
    exact hout
  · simp only [List.length_append, List.length_cons, List.length_nil] at hi
    rcases Nat.lt_or_ge i vs.length with hlt | hge
    · have := (h.inn i hlt).kept hg (own_ne (h.inn i hlt) h.out hT)
      simpa [List.getElem_append_left hlt, List.getElem_append_left (show i < ss.length by omega)] using this
    · have hi' : i = vs.length := by omega
      subst hi'
      have := ho.kept hg (own_ne ho h.out hT)
      have e1 : (vs ++ [x])[vs.length]'(by simp) = x := by simp
      have e2 : (ss ++ [s])[vs.length]'(by simp [hl]) = s := by simp [← hl]
      rw [e1, e2]
      exact this
  · simp only [List.length_append, List.length_cons, List.length_nil] at hi hj
    rcases Nat.lt_or_ge i ss.length with hi1 | hi1 <;> rcases Nat.lt_or_ge j ss.length with hj1 | hj1
    · rw [List.getElem_append_left hi1, List.getElem_append_left hj1]
      exact h.nd i j hi1 hj1 hij
    · obtain rfl : j = ss.length := by omega
      rw [List.getElem_append_left hi1]
      simpa using (hf i hi1).1
    · obtain rfl : i = ss.length := by omega
      rw [List.getElem_append_left hj1]
      simpa using (hf j hj1).2
    · omega

/-- One more verb, its points in a row made since wr. -/
theorem OVb.push {wr w7 : World} {v8 : Value} {w8 : World} {x : Vb} {s : Value} (h : OVb wr B TP TV v vs ss) (hT : TP ≠ TV) (hx : Ext wr w7) (hs : Has w7 B TP 2 s x.2.length (x.2.flatMap ptC))
    (hfr : ∀ g, s.ownBlock = some g → wr.heap.size ≤ g) (hout : Has w8 B TV 2 v8 (vs.length + 1) (zipC vs ss ++ [.int .i64 x.1, s])) (hg : w7.grownBy w8 v.ownBlock) : OVb w8 B TP TV v8 (vs ++ [x]) (ss ++ [s]) := by
  refine (h.ext hx).snoc hs hT (fun i hi => ?_) hout hg
  have hil : i < vs.length := by rw [← h.len]; exact hi
  have hlt := (h.inn i hil).lt
  have key : ∀ g, ss[i].ownBlock = some g → s.ownBlock = some g → False := fun g h1 h2 => by
    have := (hlt g h1).2; have := hfr g h2; omega
  refine ⟨?_, ?_⟩
  · cases hc : ss[i].ownBlock with
    | none => exact .inl rfl
    | some g => exact .inr fun he => key g hc he.symm
  · cases hc : s.ownBlock with
    | none => exact .inl rfl
    | some g => exact .inr fun he => key g he.symm hc
theorem OVb.rebase {B' : Nat} (h : OVb w B TP TV v vs ss) (hB : B' ≤ B) : OVb w B' TP TV v vs ss := ⟨h.len, h.out.rebase hB, fun i hi => (h.inn i hi).rebase hB, h.nd⟩
/-- The outer row copied; the points' rows are shared. -/
theorem OVb.copy {v' : Value} (h : OVb w B TP TV v vs ss) (ho : Has w' B TV 2 v' vs.length (zipC vs ss)) (hx : Ext w w') : OVb w' B TP TV v' vs ss :=
  ⟨h.len, ho, fun i hi => own_ext (h.inn i hi) hx, h.nd⟩
theorem row_mid (w : World) (o1 o3 : Obj) (e : TypeId) (cs : List Value) : Row (((w.alloc o1).alloc (.cells cs.toArray e)).alloc o3) (w.heap.size + 1) e cs := by
  have := (Row.new (w.alloc o1) e cs).alloc o3
  simpa using this

theorem OVb.one (h : OVb w B TP TV v vs ss) : ∀ u ∈ zipC vs ss, u.oneCell' = true := by
  intro u hu
  obtain ⟨x, hx, hu⟩ := List.mem_flatMap.1 hu
  simp only [List.mem_cons, List.not_mem_nil, or_false] at hu
  rcases hu with rfl | rfl
  · rfl
  · obtain ⟨i, hi, hxi⟩ := List.getElem_of_mem hx
    rw [List.length_zip] at hi
    have hh := h.inn i (by omega)
    obtain ⟨A, cap, hs⟩ := own_form hh
    have e : x.2 = ss[i]'(by omega) := by rw [← hxi]; simp
    rw [e, hs]; rfl

/-- Verb k's kind is stored anew. -/
theorem OVb.kind {g cap : Nat} (h : OVb w B TP TV (.slice (some ⟨g, 0, none⟩) vs.length cap) vs ss) (hT : TP ≠ TV) {k : Nat} (hk : k < vs.length) (n : Int) :
    OVb (w.setCell ⟨g, k * 2, none⟩ (.int .i64 n)) B TP TV (.slice (some ⟨g, 0, none⟩) vs.length cap) (vs.set k (n, vs[k].2)) ss := by
  have hs := h.out.stored (k * 2) (.int .i64 n)
  rw [zipC_set h.len hk (n, vs[k].2)] at hs
  refine ⟨by simpa using h.len, by simpa using hs.1, fun i hi => ?_, h.nd⟩
  simp only [List.length_set] at hi
  have hi' := h.inn i hi
  have hk' := hi'.kept hs.2 (by
    have := own_ne hi' h.out hT
    simpa [Value.ownBlock] using this)
  by_cases hik : k = i
  · subst hik; simpa using hk'
  · simpa [List.getElem_set_ne hik] using hk'

/-- Verb k's points are turned, in their own block. -/
theorem OVb.pts (h : OVb w B TP TV v vs ss) (hT : TP ≠ TV) {k : Nat} (hk : k < vs.length) {ps : List Pt}
    (ho : Has w' B TP 2 (ss[k]'(by have := h.len; omega)) ps.length (ps.flatMap ptC)) (hg : w.grownBy w' (ss[k]'(by have := h.len; omega)).ownBlock) : OVb w' B TP TV v (vs.set k (vs[k].1, ps)) ss := by
  have hlen := h.len
  have hz : zipC (vs.set k (vs[k].1, ps)) ss = zipC vs ss := by
    rw [← zipC_set h.len hk]
    obtain ⟨z0, _⟩ := zipC_get h.len hk
    apply List.ext_getElem?
    intro i
    rw [List.getElem?_set]
    split
    · rename_i e; subst e
      split
      · exact z0.symm
      · rename_i hn; rw [zipC_len h.len] at hn; omega
    · rfl
  refine ⟨by simpa using h.len, ?_, fun i hi => ?_, h.nd⟩
  · rw [hz, List.length_set]
    exact h.out.kept hg (by
      have := own_ne h.out (h.inn k hk) (Ne.symm hT)
      exact this)
  · simp only [List.length_set] at hi
    by_cases hik : k = i
    · subst hik; simpa using ho
    · have hi' := (h.inn i hi).kept hg (h.nd i k (by omega) (by omega) (Ne.symm hik))
      simpa [List.getElem_set_ne hik] using hi'
end

/-! ### polygons -/
/-- The verbs of a polygon, without the close. -/
def polyV (ps : List Pt) : List Vb := ps.zipIdx.map fun x => (if 0 < x.2 then 1 else 0, [x.1])
theorem polyV_len (ps : List Pt) : (polyV ps).length = ps.length := by simp [polyV]
theorem polyV_take {ps : List Pt} {k : Nat} (h : k < ps.length) : polyV (ps.take (k + 1)) = polyV (ps.take k) ++ [(if 0 < k then 1 else 0, [ps[k]])] := by
  unfold polyV
  have e : min k ps.length = k := by omega
  rw [List.take_succ_eq_append_getElem h, List.zipIdx_append, List.map_append, List.length_take, e]
  simp only [List.zipIdx_cons, List.zipIdx_nil, List.map_cons, List.map_nil, Nat.zero_add]

/-! ### marks -/
def markV (k : Int) : List Vb → List Vb
  | [] => []
  | v :: vs => (k, mkP (k + 1) v.2.length) :: markV (k + 1 + 2 * (v.2.length : Int)) vs
def endV (k : Int) : List Vb → Int
  | [] => k
  | v :: vs => endV (k + 1 + 2 * (v.2.length : Int)) vs
theorem markV_len (k : Int) (vs : List Vb) : (markV k vs).length = vs.length := by
  induction vs generalizing k with
  | nil => rfl
  | cons v vs ih => simp [markV, ih]
theorem endV_snoc (k : Int) (vs : List Vb) (v : Vb) : endV k (vs ++ [v]) = endV k vs + 1 + 2 * (v.2.length : Int) := by
  induction vs generalizing k with
  | nil => rfl
  | cons a vs ih => simp [endV, ih]
theorem markV_snoc (k : Int) (vs : List Vb) (v : Vb) : markV k (vs ++ [v]) = markV k vs ++ [(endV k vs, mkP (endV k vs + 1) v.2.length)] := by
  induction vs generalizing k with
  | nil => rfl
  | cons a vs ih => simp [endV, markV, ih]
theorem endV_bd (k : Int) (vs : List Vb) (h : ∀ v ∈ vs, v.2.length ≤ 1000000) : k ≤ endV k vs ∧ endV k vs ≤ k + 3000001 * (vs.length : Int) := by
  induction vs generalizing k with
  | nil => simp [endV]
  | cons v vs ih =>
    have h1 := h v List.mem_cons_self
    have h2 := ih (k + 1 + 2 * (v.2.length : Int)) (fun x hx => h x (List.mem_cons_of_mem _ hx))
    simp only [endV, List.length_cons]
    push_cast
    omega
/-- The first j verbs are marked. -/
def mV (k : Int) (j : Nat) (vs : List Vb) : List Vb := markV k (vs.take j) ++ vs.drop j
theorem mV_len (k : Int) (j : Nat) (vs : List Vb) : (mV k j vs).length = vs.length := by
  simp only [mV, List.length_append, markV_len, List.length_take, List.length_drop]; omega
theorem mV_zero (k : Int) (vs : List Vb) : mV k 0 vs = vs := by simp [mV, markV]
theorem mV_all (k : Int) (vs : List Vb) : mV k vs.length vs = markV k vs := by simp [mV]
theorem mV_get {k : Int} {j : Nat} {vs : List Vb} (h : j < vs.length) : (mV k j vs)[j]'(by rw [mV_len]; exact h) = vs[j] := by
  unfold mV
  have : (markV k (vs.take j)).length = j := by rw [markV_len, List.length_take]; omega
  rw [List.getElem_append_right (by omega)]
  simp [this]
theorem mV_set {k : Int} {j : Nat} {vs : List Vb} (h : j < vs.length) : (mV k j vs).set j (endV k (vs.take j), mkP (endV k (vs.take j) + 1) vs[j].2.length) = mV k (j + 1) vs := by
  unfold mV
  have hl : (markV k (vs.take j)).length = j := by rw [markV_len, List.length_take]; omega
  rw [List.set_append_right _ _ (by omega), hl, Nat.sub_self, List.drop_eq_getElem_cons h, List.set_cons_zero, List.take_succ_eq_append_getElem h, markV_snoc, List.append_assoc]
  rfl

theorem OVb.vbs_marked {w : World} {B : Nat} {TP TV : TypeId} {A : Option Addr} {cap : Nat} {vs : List Vb} {k : Int} {ss : List Value} (h : OVb w B TP TV (.slice A vs.length cap) (markV k vs) ss) : Vbs w A (markV k vs) := by
  have h2 : OVb w B TP TV (.slice A (markV k vs).length cap) (markV k vs) ss := by rw [markV_len]; exact h
  exact h2.in_

end Go.Proofs.Yteknlifgejpjfaa
