/-
  Plain words: points, slices that read as lists, small lemmas. Nothing of a program.
-/
import Derived.WalkKit
import Derived.WalkSpells
import Derived.WalkLawsBesides
import Derived.IntWalk
import Derived.BigGuardPart
import Derived.BigQuiet
import Derived.Deep.QuietTactic
import Derived.Lib.Hide
import Derived.Laws.OwnMore
import Derived.Laws.MakeOwn
import Derived.Laws.Entries
import Derived.Laws.Rows
import Derived.Deep.Draws
import Derived.Maps.AppendAt
import Derived.OwnWalk
import Derived.Laws.Tables
import Derived.Laws.NewBlocks
import Derived.Test.YteknlifgejpjfaaRegion
namespace Go.Proofs.Yteknlifgejpjfaa
open Go Go.RowKit Reg

abbrev Pt := Int × Int

theorem ret_b {p : Prop} [Decidable p] {b : Bool} (h : b = true ↔ p) : Ending.returned (.bool b) = .returned (.bool (decide p)) := by
  congr 2; rw [Bool.eq_iff_iff, h]; simp
theorem ret_bb {b c : Bool} (h : b = c) : Ending.returned (.bool b) = .returned (.bool c) := by rw [h]
theorem ret_i {k : IntKind} {a b : Int} (h : a = b) : Ending.returned (.int k a) = .returned (.int k b) := by rw [h]

theorem bcell {W w1 : World} (hb : Below W.heap.size W w1) : (∀ b o, b < W.heap.size → w1.cell? ⟨b, o, none⟩ = W.cell? ⟨b, o, none⟩) ∧ (∀ b o, b < W.heap.size → w1.frozen? ⟨b, o, none⟩ = W.frozen? ⟨b, o, none⟩) :=
  ⟨fun b o h => hb.cell (p := ⟨b, o, none⟩) h, fun b o h => hb.frozen (p := ⟨b, o, none⟩) h⟩

/-- A call that leaves the world alone. -/
theorem ext_of_same {P : Program} {f : FuncId} {args : Array Value} {w : World} {v : Value} (h : Calls P f args w fun e w' => e = .returned v ∧ w = w') :
    Calls P f args w fun e w' => e = .returned v ∧ Below w.heap.size w w' :=
  h.mono fun _ _ ⟨he, hw⟩ => ⟨he, by subst hw; exact Below.refl _ _⟩

/-! ### slices that read as lists -/

/-- The slice at A reads as xs: each element's cells, 'sz' of them, are as R says. -/
def In {α : Type} (R : World → α → List Value → Prop) (sz : Nat) (w : World) (A : Option Addr) (xs : List α) : Prop :=
  0 < xs.length → ∃ b off, A = some ⟨b, off, none⟩ ∧ ∀ (k : Nat) (h : k < xs.length), ∃ us, R w xs[k] us ∧ us.length = sz ∧ ∀ (j : Nat) u, us[j]? = some u → w.cell? ⟨b, off + k * sz + j, none⟩ = some u

/-- What R says is kept by new blocks. -/
def Stab {α : Type} (R : World → α → List Value → Prop) : Prop := ∀ w w' x us, R w x us → Ext w w' → R w' x us

theorem In.ext {α : Type} {R : World → α → List Value → Prop} {sz : Nat} {w w' : World} {A : Option Addr} {xs : List α} (hR : Stab R) (h : In R sz w A xs) (hx : Ext w w') : In R sz w' A xs := by
  intro hn
  obtain ⟨b, off, hA, hc⟩ := h hn
  refine ⟨b, off, hA, fun k hk => ?_⟩
  obtain ⟨us, h1, h2, h3⟩ := hc k hk
  exact ⟨us, hR _ _ _ _ h1 hx, h2, fun j u hu => Cls.cell hx (h3 j u hu)⟩

def ptR : World → Pt → List Value → Prop := fun _ p us => us = [.int .i64 p.1, .int .i64 p.2]
def intR : World → Int → List Value → Prop := fun _ n us => us = [.int .i64 n]
theorem ptR_stab : Stab ptR := fun _ _ _ _ h _ => h
theorem intR_stab : Stab intR := fun _ _ _ _ h _ => h

abbrev Pts (w : World) (A : Option Addr) (ps : List Pt) : Prop := In ptR 2 w A ps
abbrev Ints (w : World) (A : Option Addr) (ns : List Int) : Prop := In intR 1 w A ns

theorem In.of_nil {α : Type} {R : World → α → List Value → Prop} {sz : Nat} {w : World} {A : Option Addr} : In R sz w A [] := fun h => absurd h (by simp)

theorem cell_lt {w : World} {p : Addr} {v : Value} (hc : w.cell? p = some v) : p.block < w.heap.size := by
  unfold World.cell? at hc
  rcases Nat.lt_or_ge p.block w.heap.size with h | h
  · exact h
  · rw [Array.getElem?_eq_none h] at hc; cases hc
theorem In.lt {α : Type} {R : World → α → List Value → Prop} {sz : Nat} {w : World} {A : Option Addr} {xs : List α} (h : In R sz w A xs) (h0 : 0 < sz) (hn : 0 < xs.length) : ∀ b off, A = some ⟨b, off, none⟩ → b < w.heap.size := by
  intro b off hA
  obtain ⟨b', off', hA', hc⟩ := h hn
  rw [hA] at hA'
  injection hA' with hA'
  injection hA' with e1 e2
  subst e1
  obtain ⟨us, _, h2, h3⟩ := hc 0 hn
  have := cell_lt (h3 0 _ (List.getElem?_eq_getElem (by omega)))
  exact this

theorem In.pts {w : World} {A : Option Addr} {ps : List Pt} (h : Pts w A ps) (hn : 0 < ps.length) : ∃ b off, A = some ⟨b, off, none⟩ ∧ b < w.heap.size ∧
    ∀ (k : Nat) (h : k < ps.length), w.cell? ⟨b, off + k * 2, none⟩ = some (.int .i64 ps[k].1) ∧ w.cell? ⟨b, off + k * 2 + 1, none⟩ = some (.int .i64 ps[k].2) := by
  have hlt := h.lt (by omega) hn
  obtain ⟨b, off, hA, hc⟩ := h hn
  refine ⟨b, off, hA, hlt b off hA, fun k hk => ?_⟩
  obtain ⟨us, h1, _, h3⟩ := hc k hk
  have h1' : us = [.int .i64 ps[k].1, .int .i64 ps[k].2] := h1
  subst h1'
  exact ⟨h3 0 _ rfl, h3 1 _ rfl⟩
theorem In.ints {w : World} {A : Option Addr} {ns : List Int} (h : Ints w A ns) (hn : 0 < ns.length) : ∃ b off, A = some ⟨b, off, none⟩ ∧ b < w.heap.size ∧
    ∀ (k : Nat) (h : k < ns.length), w.cell? ⟨b, off + k, none⟩ = some (.int .i64 ns[k]) := by
  have hlt := h.lt (by omega) hn
  obtain ⟨b, off, hA, hc⟩ := h hn
  refine ⟨b, off, hA, hlt b off hA, fun k hk => ?_⟩
  obtain ⟨us, h1, _, h3⟩ := hc k hk
  have h1' : us = [.int .i64 ns[k]] := h1
  subst h1'
  have := h3 0 _ rfl
  simpa using this

/-! ### blocks that are known whole -/
/-- Block g is just the cells cs of element type e, none frozen. -/
def Row (w : World) (g : Nat) (e : TypeId) (cs : List Value) : Prop := w.heap[g]? = some (.cells cs.toArray e (0, 0))

section
variable {w w' : World} {g : Nat} {e : TypeId} {cs : List Value}
theorem Row.lt (h : Row w g e cs) : g < w.heap.size := by
  rcases Nat.lt_or_ge g w.heap.size with hlt | hge
  · exact hlt
  · unfold Row at h; rw [Array.getElem?_eq_none hge] at h; cases h
theorem Row.cell (h : Row w g e cs) (i : Nat) : w.cell? ⟨g, i, none⟩ = cs[i]? := by
  unfold Row at h
  simp [World.cell?, h]
theorem Row.cell_of (h : Row w g e cs) {i : Nat} {v : Value} (hv : cs[i]? = some v) : w.cell? ⟨g, i, none⟩ = some v := (h.cell i).trans hv
theorem Row.frozen (h : Row w g e cs) (i : Nat) : w.frozen? ⟨g, i, none⟩ = false := by
  unfold Row at h
  simp [World.frozen?, h]
theorem Row.new (w : World) (e : TypeId) (cs : List Value) : Row (w.alloc (.cells cs.toArray e)) w.heap.size e cs := heap_alloc_new w _
theorem Row.alloc (h : Row w g e cs) (o : Obj) : Row (w.alloc o) g e cs := (Below.heap_alloc w o g h.lt).trans h
theorem Row.drew (h : Row w g e cs) : Row w.drew g e cs := h
theorem Row.ext (h : Row w g e cs) (hx : Ext w w') : Row w' g e cs := (hx.block g h.lt).trans h
theorem Row.below {B : Nat} (h : Row w g e cs) (hx : Below B w w') (hg : g < B) : Row w' g e cs := (hx.block g hg).trans h
theorem Row.set_ (h : Row w g e cs) (i : Nat) (u : Value) : Row (w.setCell ⟨g, i, none⟩ u) g e (cs.set i u) := by
  unfold Row at h ⊢
  simp [World.setCell, Array.getElem?_modify, h]
theorem Row.far (h : Row w g e cs) {p : Addr} (hp : g ≠ p.block) (u : Value) : Row (w.setCell p u) g e cs := (Below.heap_setCell w p u g hp).trans h
end

/-! ### elements laid out in cells -/
def ptC (p : Pt) : List Value := [.int .i64 p.1, .int .i64 p.2]
def intC (n : Int) : List Value := [.int .i64 n]
/-- The first k elements laid, behind them the zero element. -/
def fillC {α : Type} (enc : α → List Value) (z : List Value) (xs : List α) (k : Nat) : List Value := (xs.take k).flatMap enc ++ (List.replicate (xs.length - k) z).flatten

theorem flat_len {α : Type} {enc : α → List Value} {sz : Nat} (he : ∀ x, (enc x).length = sz) (xs : List α) : (xs.flatMap enc).length = xs.length * sz := by
  induction xs with
  | nil => simp
  | cons x xs ih => simp [List.flatMap_cons, ih, he, Nat.add_mul, Nat.add_comm]
theorem flat_get {α : Type} {enc : α → List Value} {sz : Nat} (he : ∀ x, (enc x).length = sz) : ∀ (xs : List α) (rest : List Value) (k : Nat) (h : k < xs.length) (j : Nat), j < sz → (xs.flatMap enc ++ rest)[k * sz + j]? = (enc xs[k])[j]?
  | [], _, _, h, _, _ => absurd h (by simp)
  | x :: xs, rest, 0, _, j, hj => by
    rw [List.flatMap_cons, List.append_assoc, List.getElem?_append_left (by rw [he]; omega)]
    simp
  | x :: xs, rest, k + 1, h, j, hj => by
    rw [List.flatMap_cons, List.append_assoc, List.getElem?_append_right (by rw [he, Nat.add_mul]; omega)]
    have e : (k + 1) * sz + j - (enc x).length = k * sz + j := by rw [he, Nat.add_mul]; omega
    rw [e, flat_get he xs rest k (by simpa using h) j hj]
    rfl

theorem flat_take {α : Type} {enc : α → List Value} {sz : Nat} (he : ∀ x, (enc x).length = sz) (xs : List α) (k : Nat) (h : k ≤ xs.length) : (xs.flatMap enc).take (k * sz) = (xs.take k).flatMap enc := by
  conv => lhs; rw [← List.take_append_drop k xs, List.flatMap_append]
  have e : k * sz = ((xs.take k).flatMap enc).length := by rw [flat_len he, List.length_take, Nat.min_eq_left h]
  rw [e, List.take_left]
theorem zeros_get {z : List Value} {sz : Nat} (hz : z.length = sz) (n k j : Nat) (hk : k < n) (hj : j < sz) : ((List.replicate n z).flatten)[k * sz + j]? = z[j]? := by
  have := flat_get (enc := fun _ : Unit => z) (sz := sz) (fun _ => hz) (List.replicate n ()) [] k (by simpa using hk) j hj
  simpa [List.flatMap_replicate] using this

theorem fillC_get {α : Type} {enc : α → List Value} {z : List Value} {sz : Nat} (he : ∀ x, (enc x).length = sz) (hz : z.length = sz) {xs : List α} {k : Nat} (hk : k < xs.length) {j : Nat} (hj : j < sz) :
    (fillC enc z xs k)[k * sz + j]? = z[j]? := by
  unfold fillC
  rw [List.getElem?_append_right (by rw [flat_len he, List.length_take]; have : min k xs.length = k := by omega
                                     rw [this]; omega), flat_len he, List.length_take]
  have e : k * sz + j - min k xs.length * sz = 0 * sz + j := by have : min k xs.length = k := by omega
                                                                rw [this]; omega
  rw [e, zeros_get hz _ 0 j (by omega) hj]

theorem fillC_len {α : Type} {enc : α → List Value} {z : List Value} {sz : Nat} (he : ∀ x, (enc x).length = sz) (hz : z.length = sz) {xs : List α} {k : Nat} (hk : k ≤ xs.length) : (fillC enc z xs k).length = xs.length * sz := by
  unfold fillC
  rw [List.length_append, flat_len he, List.length_take, List.length_flatten]
  simp only [List.map_replicate, hz, List.sum_replicate_nat]
  have : min k xs.length = k := by omega
  rw [this, ← Nat.add_mul]; congr 1; omega

/-- Storing element k's cells, one by one. -/
def setAll (cs : List Value) (i : Nat) : List Value → List Value
  | [] => cs
  | u :: us => setAll (cs.set i u) (i + 1) us

theorem setAll_append (a : List Value) : ∀ (us b c : List Value), b.length = us.length → setAll (a ++ (b ++ c)) a.length us = a ++ (us ++ c)
  | [], b, c, h => by simp at h; subst h; rfl
  | u :: us, b, c, h => by
    match b, h with
    | x :: b, h =>
      simp only [setAll]
      have e : (a ++ ((x :: b) ++ c)).set a.length u = (a ++ [u]) ++ (b ++ c) := by simp
      have e2 : a.length + 1 = (a ++ [u]).length := by simp
      rw [e, e2, setAll_append (a ++ [u]) us b c (by simpa using h)]
      simp

theorem fillC_set {α : Type} {enc : α → List Value} {z : List Value} {sz : Nat} (he : ∀ x, (enc x).length = sz) (hz : z.length = sz) {xs : List α} {k : Nat} (hk : k < xs.length) :
    setAll (fillC enc z xs k) (k * sz) (enc xs[k]) = fillC enc z xs (k + 1) := by
  have hl : ((xs.take k).flatMap enc).length = k * sz := by
    rw [flat_len he, List.length_take]; congr 1; omega
  have e1 : xs.length - k = (xs.length - (k + 1)) + 1 := by omega
  unfold fillC
  rw [e1, List.replicate_succ, List.flatten_cons, ← hl, setAll_append _ _ _ _ (by rw [he, hz]), List.take_succ_eq_append_getElem hk, List.flatMap_append]
  simp

theorem setAll_take_drop {α : Type} {enc : α → List Value} {sz : Nat} (he : ∀ x, (enc x).length = sz) (xs : List α) {k : Nat} (hk : k < xs.length) (x : α) : setAll (xs.flatMap enc) (k * sz) (enc x) = (xs.set k x).flatMap enc := by
  have e : xs = xs.take k ++ (xs[k] :: xs.drop (k + 1)) := by rw [← List.drop_eq_getElem_cons hk, List.take_append_drop]
  have e2 : xs.set k x = xs.take k ++ (x :: xs.drop (k + 1)) := by
    conv => lhs; rw [e]
    rw [List.set_append_right _ _ (by rw [List.length_take]; omega), List.length_take]
    have : k - min k xs.length = 0 := by omega
    rw [this, List.set_cons_zero]
  have hl : ((xs.take k).flatMap enc).length = k * sz := by rw [flat_len he, List.length_take]; congr 1; omega
  rw [e2]
  conv => lhs; rw [e]
  rw [List.flatMap_append, List.flatMap_cons, List.flatMap_append, List.flatMap_cons, ← hl]
  exact setAll_append _ _ _ _ (by rw [he, he])
theorem flat_set {enc : Pt → List Value} (he : ∀ x, (enc x).length = 2) (xs : List Pt) {k : Nat} (hk : k < xs.length) (x : Pt) (hx : enc x = [.int .i64 x.1, .int .i64 x.2] := by rfl) :
    ((xs.flatMap enc).set (k * 2) (.int .i64 x.1)).set (k * 2 + 1) (.int .i64 x.2) = (xs.set k x).flatMap enc := by
  have := setAll_take_drop he xs hk x
  rw [hx] at this
  exact this
theorem fillC_zero {α : Type} {enc : α → List Value} {z : List Value} (xs : List α) : fillC enc z xs 0 = (List.replicate xs.length z).flatten := by simp [fillC]
theorem fillC_all {α : Type} {enc : α → List Value} {z : List Value} (xs : List α) : fillC enc z xs xs.length = xs.flatMap enc := by simp [fillC]

theorem madeCells_eq {z : Array Value} {zl : List Value} (n : Nat) (hz : z = zl.toArray) (h0 : 0 < zl.length) : madeCells z (n * zl.length) = ((List.replicate n zl).flatten).toArray := by
  subst hz
  apply Array.toList_inj.1
  simp only [madeCells, Array.toList_map, Array.toList_range, List.size_toArray]
  apply List.ext_getElem?
  intro i
  rcases Nat.lt_or_ge i (n * zl.length) with hi | hi
  · have hr : i % zl.length < zl.length := Nat.mod_lt _ h0
    have hq : i / zl.length < n := Nat.div_lt_of_lt_mul (by rw [Nat.mul_comm]; exact hi)
    have := zeros_get (z := zl) rfl n (i / zl.length) (i % zl.length) hq hr
    rw [Nat.mul_comm, Nat.div_add_mod] at this
    rw [this, List.getElem?_map, List.getElem?_range hi]
    simp [hr]
  · rw [List.getElem?_eq_none (by simpa using hi), List.getElem?_eq_none (by simpa [List.length_flatten, List.sum_replicate_nat] using hi)]

/-- A whole row reads as its elements. -/
theorem Row.in_ {α : Type} {enc : α → List Value} {sz : Nat} {R : World → α → List Value → Prop} {w : World} {g : Nat} {e : TypeId} {xs : List α} {rest : List Value} (he : ∀ x, (enc x).length = sz)
    (h : Row w g e (xs.flatMap enc ++ rest)) (hR : ∀ (k : Nat) (hk : k < xs.length), R w xs[k] (enc xs[k])) : In R sz w (some ⟨g, 0, none⟩) xs := by
  intro _
  refine ⟨g, 0, rfl, fun k hk => ⟨enc xs[k], hR k hk, he _, fun j u hu => ?_⟩⟩
  have hj : j < sz := by
    have := (List.getElem?_eq_some_iff.1 hu).1
    rwa [he] at this
  rw [Nat.zero_add, h.cell, flat_get he xs rest k hk j hj, hu]

/-- What is known of a slice type and its element type. -/
structure EI (P : Program) (t e : TypeId) (z : Value) (zl : List Value) (bytes : Nat) : Prop where
  und : P.underlying t = some (.slice e)
  info : ∃ i, P.info? e = some i ∧ i.zero = some z ∧ i.size = zl.length ∧ i.bytes = bytes
  zc : z.cells = zl.toArray
  pos : 0 < zl.length
  small : bytes ≤ 1000

theorem ei_mk {P : Program} {t e : TypeId} {z : Value} {zl : List Value} {bytes : Nat} (hu : P.underlying t = some (.slice e)) (h : (P.info? e).map (fun i => (i.zero, i.size, i.bytes)) = some (some z, zl.length, bytes))
    (hz : z.cells = zl.toArray) (h0 : 0 < zl.length) (hs : bytes ≤ 1000) : EI P t e z zl bytes := ⟨hu, info_parts h, hz, h0, hs⟩

theorem run_make_fill {P : Program} {t e : TypeId} {z : Value} {zl : List Value} {bytes : Nat} (E : EI P t e z zl bytes) {α : Type} (enc : α → List Value) (xs : List α) (hn : xs.length ≤ 4000000000) (w : World) :
    (Instr.makeSlice t (.int .i64 (xs.length : Int)) (.int .i64 (xs.length : Int))).run P w = .ok (.slice (some ⟨w.heap.size, 0, none⟩) xs.length xs.length) (w.alloc (.cells (fillC enc zl xs 0).toArray e)) := by
  obtain ⟨i, h1, h2, h3, h4⟩ := E.info
  have hs := E.small
  have hb : i.bytes * xs.length ≤ 1000 * 4000000000 := Nat.mul_le_mul (by omega) hn
  have hb' : (i.bytes : Int) * (xs.length : Int) ≤ 281474976710656 := by rw [← Int.natCast_mul]; omega
  have hr := run_make (P := P) w t e i z E.und h1 h2 .i64 .i64 (xs.length : Int) (xs.length : Int) (by omega) (Int.le_refl _) hb' (by omega)
  rw [hr, Int.toNat_natCast, h3, madeCells_eq xs.length E.zc E.pos, fillC_zero]

/-! ### rows of one's own -/
/-- The slice value v, n elements of type e, owns the cells xs: it is nil, or it starts at the head of a block from base on, nothing of it frozen, with room for its capacity. (A clipped slice is one, too.) -/
def Has (w : World) (base : Nat) (e : TypeId) (sz : Nat) (v : Value) (n : Nat) (xs : List Value) : Prop :=
  xs.length = n * sz ∧ ((v = .slice none 0 0 ∧ n = 0) ∨
    ∃ g cap cur, v = .slice (some ⟨g, 0, none⟩) n cap ∧ base ≤ g ∧ w.heap[g]? = some (.cells cur e (0, 0)) ∧ n ≤ cap ∧ cap ≤ maxLen ∧ cap * sz ≤ cur.size ∧ cur.toList.take (n * sz) = xs)

section
variable {w w' : World} {base : Nat} {e : TypeId} {sz n cap g : Nat} {v : Value} {xs : List Value}
theorem Has.of (h : w.ownsRow base e sz v n xs) : Has w base e sz v n xs := by
  refine ⟨h.1, ?_⟩
  rcases h.2 with h0 | ⟨g, cap, cur, h1, h2, h3, h4, h5, h6, h7⟩
  · exact .inl h0
  · exact .inr ⟨g, cap, cur, h1, h2, h3, h4, h5, by omega, h7⟩
theorem Has.lt (h : Has w base e sz v n xs) : ∀ k, v.ownBlock = some k → base ≤ k ∧ k < w.heap.size := by
  intro k hk
  rcases h.2 with ⟨rfl, _⟩ | ⟨g, cap, cur, rfl, h2, h3, _⟩
  · cases hk
  · have : g = k := by simpa [Value.ownBlock] using hk
    subst this
    exact ⟨h2, Row.lt (cs := cur.toList) (by unfold Row; simpa using h3)⟩
theorem Has.kept {row : Option Nat} (h : Has w base e sz v n xs) (hg : w.grownBy w' row) (hne : v.ownBlock = none ∨ v.ownBlock ≠ row) : Has w' base e sz v n xs := by
  refine ⟨h.1, ?_⟩
  have hl := h.lt
  rcases h.2 with h0 | ⟨g, cap, cur, h1, h2, h3, h4⟩
  · exact .inl h0
  · refine .inr ⟨g, cap, cur, h1, h2, ?_, h4⟩
    subst h1
    rw [hg.block g (hl g rfl).2 (by rcases hne with h | h
                                    · cases h
                                    · exact h)]
    exact h3
theorem Has.cellAt (h : Has w base e sz (.slice (some ⟨g, 0, none⟩) n cap) n xs) (j : Nat) (hj : j < n * sz) : w.cell? ⟨g, j, none⟩ = xs[j]? := by
  rcases h.2 with ⟨h0, _⟩ | ⟨g', cap', cur, h1, _, h3, _, _, _, h7⟩
  · cases h0
  · injection h1 with h1 _ _
    injection h1 with h1
    injection h1 with h1
    subst h1
    rw [(show Row w g e cur.toList by unfold Row; simpa using h3).cell, ← h7, List.getElem?_take_of_lt hj]
theorem Has.frozenAt (h : Has w base e sz (.slice (some ⟨g, 0, none⟩) n cap) n xs) (j : Nat) : w.frozen? ⟨g, j, none⟩ = false := by
  rcases h.2 with ⟨h0, _⟩ | ⟨g', cap', cur, h1, _, h3, _⟩
  · cases h0
  · injection h1 with h1 _ _
    injection h1 with h1
    injection h1 with h1
    subst h1
    exact (show Row w g e cur.toList by unfold Row; simpa using h3).frozen j
theorem Has.stored (h : Has w base e sz (.slice (some ⟨g, 0, none⟩) n cap) n xs) (j : Nat) (u : Value) :
    Has (w.setCell ⟨g, j, none⟩ u) base e sz (.slice (some ⟨g, 0, none⟩) n cap) n (xs.set j u) ∧ w.grownBy (w.setCell ⟨g, j, none⟩ u) (some g) := by
  rcases h.2 with ⟨h0, _⟩ | ⟨g', cap', cur, h1, h2, h3, h4, h5, h6, h7⟩
  · cases h0
  · injection h1 with h1 _ hc
    injection h1 with h1
    injection h1 with h1
    subst h1 hc
    have hr := (show Row w g e cur.toList by unfold Row; simpa using h3).set_ j u
    refine ⟨⟨by simpa using h.1, .inr ⟨g, cap, (cur.toList.set j u).toArray, rfl, h2, hr, h4, h5, by simpa using h6, ?_⟩⟩,
      ⟨rfl, rfl, rfl, by simp [World.setCell], fun k _ hk => Below.heap_setCell w ⟨g, j, none⟩ u k (by rintro rfl; exact hk rfl)⟩⟩
    show (cur.toList.set j u).take (n * sz) = xs.set j u
    rw [← h7, List.take_set]
end

/-! ### append to a row of one's own -/
section
variable {P : Program} {w : World} {base : Nat} {t e : TypeId} {z : Value} {zl : List Value} {bytes : Nat}

/-- What is appended: m elements, cells news, at A. -/
def Src (w : World) (A : Option Addr) (m sz : Nat) (news : List Value) : Prop :=
  news.length = m * sz ∧ (A = none → m = 0) ∧ (∀ ad, A = some ad → ∀ (j : Nat) u, news[j]? = some u → w.cell? (ad.add j) = some u) ∧ ∀ u ∈ news, u.oneCell' = true

theorem Has.rebase {sz n : Nat} {v : Value} {B B' : Nat} {xs : List Value} (h : Has w B e sz v n xs) (hB : B' ≤ B) : Has w B' e sz v n xs := by
  refine ⟨h.1, ?_⟩
  rcases h.2 with h0 | ⟨g, cap, cur, h1, h2, h3⟩
  · exact .inl h0
  · exact .inr ⟨g, cap, cur, h1, Nat.le_trans hB h2, h3⟩
theorem Has.src {sz n cap : Nat} {A : Option Addr} {xs : List Value} (h : Has w base e sz (.slice A n cap) n xs) (h1 : ∀ u ∈ xs, u.oneCell' = true) : Src w A n sz xs := by
  refine ⟨h.1, fun hA => ?_, fun ad had j u hu => ?_, h1⟩
  · rcases h.2 with ⟨_, h0⟩ | ⟨g, cap', cur, h2, _⟩
    · exact h0
    · injection h2 with h2; rw [hA] at h2; cases h2
  · have hj : j < n * sz := by
      have := (List.getElem?_eq_some_iff.1 hu).1
      rwa [h.1] at this
    subst had
    rcases h.2 with ⟨h0, _⟩ | ⟨g, cap', cur, h2, _⟩
    · cases h0
    · injection h2 with h2
      injection h2 with h2
      subst h2
      have e1 : (⟨g, 0, none⟩ : Addr).add j = ⟨g, j, none⟩ := by
        unfold Addr.add; split
        · rename_i h; subst h; rfl
        · simp
      rw [e1, h.cellAt j hj, hu]

theorem run_app (E : EI P t e z zl bytes) (ty : TypeId) {v : Value} {n : Nat} {xs : List Value} (hown : Has w base e zl.length v n xs) {A : Option Addr} {m : Nat} (c : Nat) {news : List Value} (hsrc : Src w A m zl.length news)
    (hn : n + m ≤ 4000000000) (hbase : base ≤ w.heap.size) :
    ∃ v' w', (Builtin.append_ #[t, t] ty #[v, .slice A m c]).run P w = .ok v' w' ∧ Has w' base e zl.length v' (n + m) (xs ++ news) ∧ w.grownBy w' v.ownBlock ∧ (v'.ownBlock = v.ownBlock ∨ v'.ownBlock = some w.heap.size) := by
  obtain ⟨i, h1, h2, h3, h4⟩ := E.info
  have hs := E.small
  have hzs : z.cells.size = zl.length := by rw [E.zc]; simp
  obtain ⟨s1, s2, s3, s4⟩ := hsrc
  have hby : (n + m) * bytes ≤ 4000000000 * 1000 := Nat.mul_le_mul hn hs
  cases A with
  | some ad =>
    rcases hown.2 with ⟨rfl, rfl⟩ | ⟨g, cap, cur, rfl, q1, q2, q3, q4, q5, q6⟩
    · have hnil : xs = [] := List.eq_nil_of_length_eq_zero (by simpa using hown.1)
      subst hnil
      obtain ⟨v', w', hrun, r1, r2, _, r3⟩ := run_append_own_at (P := P) w base t ty e i z zl.length bytes E.und h1 h2 h3 h4 hzs E.pos (.slice none 0 0) 0 [] (World.ownsRow_nil w base e zl.length) ad m c news s1 (s3 ad rfl) s4 (by simp only [maxLen]; omega) (by omega) hbase
      exact ⟨v', w', hrun, Has.of r1, r2, r3⟩
    · by_cases hroom : n + m ≤ cap
      · have hfit : n * i.size + news.length ≤ cur.size := by
          rw [h3, s1, ← Nat.add_mul]
          exact Nat.le_trans (Nat.mul_le_mul_right _ hroom) q5
        have hr := run_append_room (P := P) w t ty e i E.und h1 g n cap cur q2 ad m c news (by rw [h3]; exact s1) (s3 ad rfl) s4 hroom hfit
        refine ⟨_, _, hr, ⟨by rw [List.length_append, hown.1, s1, Nat.add_mul], .inr ⟨g, cap, _, rfl, q1, setRow_heap w g cur _ e _ q2, hroom, q4, ?_, ?_⟩⟩, ⟨rfl, rfl, rfl, by simp, fun k _ hk => setRow_other w g k _ (fun e => hk (by simp [Value.ownBlock, e]))⟩, .inl rfl⟩
        · simp only [List.size_toArray, List.length_append, List.length_take, List.length_drop, Array.length_toList]
          omega
        · have hlen : (n + m) * zl.length = (xs ++ news).length := by rw [List.length_append, hown.1, s1, Nat.add_mul]
          rw [h3, q6, hlen]
          exact List.take_left
      · have hrow : Row w g e cur.toList := by unfold Row; simpa using q2
        have holds : ∀ (j : Nat) u, xs[j]? = some u → w.cell? ((⟨g, 0, none⟩ : Addr).add j) = some u := by
          intro j u hu
          have hj : j < n * zl.length := by rw [← hown.1]; exact (List.getElem?_eq_some_iff.1 hu).1
          have e1 : (⟨g, 0, none⟩ : Addr).add j = ⟨g, j, none⟩ := by
            unfold Addr.add; split
            · rename_i h; subst h; rfl
            · simp
          rw [e1, hrow.cell]
          rw [← q6, List.getElem?_take_of_lt hj] at hu
          exact hu
        have hr := run_append_grow (P := P) w t ty e i z E.und h1 h2 ⟨g, 0, none⟩ n cap xs (by rw [h3]; exact hown.1) holds ad m c news (by rw [h3]; exact s1) (s3 ad rfl) (by omega) (by omega) (growslice_fits (by omega) (by rw [h4]; omega))
        have hlen : (xs ++ news).length = (n + m) * zl.length := by rw [List.length_append, hown.1, s1, Nat.add_mul]
        have hge := grownCap_ge w (n + m) cap e
        have hcm : grownCap w (n + m) cap e ≤ maxLen := grownCap_le_maxLen w (n + m) cap e (by simp only [maxLen]; omega)
        refine ⟨_, _, hr, ⟨hlen, .inr ⟨w.heap.size, _, _, rfl, hbase, heap_alloc_new w.drew _, hge, hcm, ?_, ?_⟩⟩, ⟨rfl, rfl, rfl, by simp, fun k hk _ => Below.heap_alloc w.drew _ k hk⟩, .inr rfl⟩
        · simp only [Array.size_append, List.size_toArray, size_zeroCells, hzs, hown.1, s1, ← Nat.add_mul]
          apply Nat.mul_le_mul_right
          omega
        · simp only [Array.toList_append, List.append_assoc]
          rw [← List.append_assoc, ← hlen]
          exact List.take_left
  | none =>
    have hm := s2 rfl
    subst hm
    have hnil : news = [] := List.eq_nil_of_length_eq_zero (by simpa using s1)
    subst hnil
    refine ⟨v, w, ?_, by simpa using hown, ⟨rfl, rfl, rfl, Nat.le_refl _, fun _ _ _ => rfl⟩, .inl rfl⟩
    rcases hown.2 with ⟨rfl, rfl⟩ | ⟨g, cap, cur, rfl, _, _, hnc, _⟩
    · simp [Builtin.append_, run_underlying E.und, sizeOf, typeInfo, h1, Builtin.lenOf, Builtin.firstCells]
    · simp [Builtin.append_, run_underlying E.und, sizeOf, typeInfo, h1, Builtin.lenOf, Builtin.firstCells, hnc, storeCells]

theorem wp_app {o : Oper} {a : Act} {K : Act → World → Prop} {Q : Exit → Act → World → Prop} (E : EI P t e z zl bytes) (s x : Operand) (ho : o.op = .call { callee := .builtin .append, args := #[s, x], argTypes := #[t, t] })
    {v : Value} {n : Nat} {xs : List Value} (hs : a.eval s = v) (hown : Has w base e zl.length v n xs) {A : Option Addr} {m c : Nat} {news : List Value} (hx : a.eval x = .slice A m c) (hsrc : Src w A m zl.length news)
    (hn : n + m ≤ 4000000000) (hbase : base ≤ w.heap.size)
    (h : ∀ v' w', Has w' base e zl.length v' (n + m) (xs ++ news) → w.grownBy w' v.ownBlock → (v'.ownBlock = v.ownBlock ∨ v'.ownBlock = some w.heap.size) → K (a.put o.dst v') w') : o.wp P a w K Q := by
  obtain ⟨v', w', hrun, h2, h3, h4⟩ := run_app E o.type hown c hsrc hn hbase
  unfold Oper.wp execOp
  simp only [ho, resolve, invoke, builtin, Sem.run_bind, Sem.run_pure, Result.andThen_ok, List.map_toArray, List.map_cons, List.map_nil, hs, hx, hrun]
  exact h v' w' h2 h3 h4

theorem wpList_app {ops : Array Oper} {rest : List Oper} {o : Oper} {a : Act} {Q : Exit → Act → World → Prop} (E : EI P t e z zl bytes) (hgd : o.guard = none) (s x : Operand) (ho : o.op = .call { callee := .builtin .append, args := #[s, x], argTypes := #[t, t] })
    {v : Value} {n : Nat} {xs : List Value} (hs : a.eval s = v) (hown : Has w base e zl.length v n xs) {A : Option Addr} {m c : Nat} {news : List Value} (hx : a.eval x = .slice A m c) (hsrc : Src w A m zl.length news)
    (hn : n + m ≤ 4000000000) (hbase : base ≤ w.heap.size)
    (h : ∀ v' w', Has w' base e zl.length v' (n + m) (xs ++ news) → w.grownBy w' v.ownBlock → (v'.ownBlock = v.ownBlock ∨ v'.ownBlock = some w.heap.size) → wpList P ops Q rest (a.put o.dst v') w') : wpList P ops Q (o :: rest) a w :=
  wpList_plain hgd fun _ hK => wp_app E s x ho hs hown hx hsrc hn hbase fun v' w' h2 h3 h4 => hK _ _ (h v' w' h2 h3 h4)

/-- The source is the cells of a block that has just been made. -/
theorem src_new (w : World) (e : TypeId) (cs : List Value) {m sz : Nat} (hl : cs.length = m * sz) (h1 : ∀ u ∈ cs, u.oneCell' = true) : Src (w.alloc (.cells cs.toArray e)) (some ⟨w.heap.size, 0, none⟩) m sz cs := by
  refine ⟨hl, fun h => (by cases h), fun ad had j u hu => ?_, h1⟩
  injection had with had
  subst had
  have e1 : (⟨w.heap.size, 0, none⟩ : Addr).add j = ⟨w.heap.size, j, none⟩ := by
    unfold Addr.add; split
    · rename_i h; subst h; rfl
    · simp
  rw [e1]
  exact (Row.new w e cs).cell_of hu

theorem Src.ext {w' : World} {A : Option Addr} {m sz : Nat} {news : List Value} (h : Src w A m sz news) (hx : Ext w w') : Src w' A m sz news :=
  ⟨h.1, h.2.1, fun ad had j u hu => Cls.cell hx (h.2.2.1 ad had j u hu), h.2.2.2⟩
theorem ext_alloc (w : World) (o : Obj) : Ext w (w.alloc o) := Below.alloc (Below.refl _ _) (Nat.le_refl _) o
theorem ext_cls {w w' : World} (h : Cls w.drew w') : Ext w w' := Below.trans (Below.refl _ w).drew h
theorem src_at {g : Nat} (w : World) (e : TypeId) (cs : List Value) {m sz : Nat} (hl : cs.length = m * sz) (h1 : ∀ u ∈ cs, u.oneCell' = true) (hg : g = w.heap.size) : Src (w.alloc (.cells cs.toArray e)) (some ⟨g, 0, none⟩) m sz cs := by
  subst hg; exact src_new w e cs hl h1
/-- A slice that reads as a list is a source. -/
theorem In.src {α : Type} {R : World → α → List Value → Prop} {enc : α → List Value} {sz : Nat} {A : Option Addr} {xs : List α} (h : In R sz w A xs) (he : ∀ x, (enc x).length = sz) (hR : ∀ x us, R w x us → us = enc x) (h1 : ∀ x, ∀ u ∈ enc x, u.oneCell' = true) (h0 : 0 < sz) :
    Src w A xs.length sz (xs.flatMap enc) := by
  refine ⟨flat_len he xs, fun hA => ?_, fun ad had j u hu => ?_, fun u hu => ?_⟩
  · rcases Nat.eq_zero_or_pos xs.length with h' | h'
    · exact h'
    · obtain ⟨b, off, hA', _⟩ := h h'
      rw [hA] at hA'; cases hA'
  · have hj : j < xs.length * sz := by
      have := (List.getElem?_eq_some_iff.1 hu).1
      rwa [flat_len he] at this
    have hn : 0 < xs.length := by
      rcases Nat.eq_zero_or_pos xs.length with h' | h'
      · rw [h'] at hj; simp at hj
      · exact h'
    obtain ⟨b, off, hA', hc⟩ := h hn
    rw [had] at hA'
    injection hA' with hA'
    subst hA'
    have hk : j / sz < xs.length := Nat.div_lt_of_lt_mul (by rw [Nat.mul_comm]; exact hj)
    have hr : j % sz < sz := Nat.mod_lt _ h0
    obtain ⟨us, q1, q2, q3⟩ := hc (j / sz) hk
    have := hR _ _ q1
    subst this
    have e1 : j / sz * sz + j % sz = j := by rw [Nat.mul_comm]; exact Nat.div_add_mod _ _
    have e2 := flat_get (rest := []) he xs (k := j / sz) hk (j := j % sz) hr
    rw [List.append_nil, e1, hu] at e2
    have := q3 _ _ e2.symm
    rw [Nat.add_assoc, e1] at this
    have e3 : (⟨b, off, none⟩ : Addr).add j = ⟨b, off + j, none⟩ := by
      unfold Addr.add; split
      · rename_i h; subst h; rfl
      · rfl
    rw [e3]; exact this
  · obtain ⟨x, _, hx⟩ := List.mem_flatMap.1 hu
    exact h1 x u hx

theorem own_form {sz n : Nat} {v : Value} {xs : List Value} (h : Has w base e sz v n xs) : ∃ A cap, v = .slice A n cap := by
  rcases h.2 with ⟨h0, h1⟩ | ⟨g, cap, cur, h1, _⟩
  · subst h1; exact ⟨none, 0, h0⟩
  · exact ⟨_, _, h1⟩
theorem own_nil (w : World) (base : Nat) (e : TypeId) (sz : Nat) : Has w base e sz (.slice none 0 0) 0 [] := Has.of (World.ownsRow_nil w base e sz)
theorem own_below {B sz n : Nat} {w0 w' : World} {v : Value} {xs : List Value} (hb : Below B w0 w) (hown : Has w B e sz v n xs) (hg : w.grownBy w' v.ownBlock) (hB : B ≤ w.heap.size) : Below B w0 w' :=
  hb.grown hg hB (fun k hk => (hown.lt k hk).1)

theorem own_ext {w' : World} {sz n : Nat} {v : Value} {xs : List Value} (h : Has w base e sz v n xs) (hx : Ext w w') : Has w' base e sz v n xs := by
  refine ⟨h.1, ?_⟩
  rcases h.2 with h0 | ⟨g, cap, cur, h1, h2, h3, h4⟩
  · exact .inl h0
  · exact .inr ⟨g, cap, cur, h1, h2, (hx.block g (Row.lt (cs := cur.toList) (by unfold Row; simpa using h3))).trans h3, h4⟩

/-- An owned row reads as its elements. -/
theorem own_in {α : Type} {enc : α → List Value} {sz cap n : Nat} {R : World → α → List Value → Prop} {A : Option Addr} {xs : List α} (he : ∀ x, (enc x).length = sz) (hsz : 0 < sz)
    (h : Has w base e sz (.slice A n cap) n (xs.flatMap enc)) (hR : ∀ x, R w x (enc x)) : In R sz w A xs := by
  intro hn
  have hl := h.1
  rw [flat_len he] at hl
  rcases h.2 with ⟨h0, h1⟩ | ⟨g, cap', cur, h1, _, h3, _, _, _, h6⟩
  · subst h1
    have : xs.length * sz = 0 := by simpa using hl
    rcases Nat.mul_eq_zero.1 this with h' | h' <;> omega
  · injection h1 with hA _ _
    subst hA
    have hrow : Row w g e (xs.flatMap enc ++ cur.toList.drop (n * sz)) := by
      unfold Row
      rw [h3, ← h6, List.take_append_drop]
    exact hrow.in_ he (fun k hk => hR _) hn
end

theorem below_ext {w wr w1 : World} (h : Below w.heap.size w wr) (k : Below wr.heap.size wr w1) : Below w.heap.size w w1 := Ext.trans h k

/-! ### lists -/
theorem all_take_succ {α : Type} {p : α → Bool} {l : List α} {k : Nat} (h : (l.take k).all p = true) (hk : k < l.length) (hv : p l[k] = true) : (l.take (k + 1)).all p = true := by
  rw [List.take_succ_eq_append_getElem hk, List.all_append, h]
  simp [hv]
theorem all_false_of {α : Type} {p : α → Bool} {l : List α} {k : Nat} (hk : k < l.length) (hv : p l[k] = false) : l.all p = false := by
  rw [Bool.eq_false_iff]; intro hh; rw [List.all_eq_true] at hh; have := hh _ (List.getElem_mem hk); rw [hv] at this; cases this
theorem all_of_take {α : Type} {p : α → Bool} {l : List α} {k : Nat} (h : (l.take k).all p = true) (hk : k = l.length) : l.all p = true := by
  subst hk; rwa [List.take_length] at h
theorem take_eq_succ {α : Type} {l m : List α} {k : Nat} (h : l.take k = m.take k) (hl : k < l.length) (hm : k < m.length) (he : l[k] = m[k]) : l.take (k + 1) = m.take (k + 1) := by
  rw [List.take_succ_eq_append_getElem hl, List.take_succ_eq_append_getElem hm, h, he]
theorem ne_of_at {α : Type} {l m : List α} {k : Nat} (hl : k < l.length) (hm : k < m.length) (he : l[k] ≠ m[k]) : l ≠ m := fun h => he (by subst h; rfl)
theorem eq_of_take {α : Type} {l m : List α} {k : Nat} (h : l.take k = m.take k) (hl : k = l.length) (hm : k = m.length) : l = m := by
  have h1 : l.take k = l := by rw [hl, List.take_length]
  have h2 : m.take k = m := by rw [hm, List.take_length]
  rw [← h1, ← h2, h]

theorem mul_bd {a b A B : Int} (h1 : -A ≤ a) (h2 : a ≤ A) (h3 : -B ≤ b) (h4 : b ≤ B) : -(A * B) ≤ a * b ∧ a * b ≤ A * B := by
  have hA : 0 ≤ A := by omega
  have hB : 0 ≤ B := by omega
  have h := Int.natAbs_mul a b
  have ha : a.natAbs ≤ A.natAbs := by omega
  have hb : b.natAbs ≤ B.natAbs := by omega
  have hm : a.natAbs * b.natAbs ≤ A.natAbs * B.natAbs := Nat.mul_le_mul ha hb
  have hAB : (A * B).natAbs = A.natAbs * B.natAbs := Int.natAbs_mul A B
  have h0 : 0 ≤ A * B := Int.mul_nonneg hA hB
  omega

theorem tmod_nat (a n : Nat) : Int.tmod (a : Int) (n : Int) = ((a % n : Nat) : Int) := by rw [Int.tmod_eq_emod_of_nonneg (by omega)]; simp
theorem tmod_nat1 (a n c : Nat) : Int.tmod ((a : Int) + (c : Int)) (n : Int) = (((a + c) % n : Nat) : Int) := by
  have := tmod_nat (a + c) n
  simpa using this

/-! ### marks: consecutive numbers laid over a row -/
def mk (k : Int) (m : Nat) : List Value := (List.range m).map fun (j : Nat) => .int .i64 (k + (j : Int))
theorem mk_len (k : Int) (m : Nat) : (mk k m).length = m := by simp [mk]
theorem mk_succ (k : Int) (m : Nat) : mk k (m + 1) = mk k m ++ [.int .i64 (k + (m : Int))] := by simp [mk, List.range_succ]
/-- The first m cells are marked. -/
def mkd (k : Int) (m : Nat) (xs : List Value) : List Value := mk k m ++ xs.drop m
theorem mkd_zero (k : Int) (xs : List Value) : mkd k 0 xs = xs := by simp [mkd, mk]
theorem mkd_all {k : Int} {m : Nat} {xs : List Value} (h : xs.length ≤ m) : mkd k m xs = mk k m := by simp [mkd, List.drop_eq_nil_of_le h]
theorem mkd_set {k : Int} {m : Nat} {xs : List Value} (h : m < xs.length) : (mkd k m xs).set m (.int .i64 (k + (m : Int))) = mkd k (m + 1) xs := by
  unfold mkd
  rw [mk_succ, List.drop_eq_getElem_cons h, List.set_append_right _ _ (by rw [mk_len]; exact Nat.le_refl _), mk_len, Nat.sub_self, List.set_cons_zero, List.append_assoc]
  rfl
theorem mkd_get {k : Int} {m : Nat} {xs : List Value} (j : Nat) (h : m ≤ j) : (mkd k m xs)[j]? = xs[j]? := by
  unfold mkd
  rw [List.getElem?_append_right (by rw [mk_len]; exact h), mk_len, List.getElem?_drop]
  congr 1; omega
/-- n marked points. -/
def mkP (k : Int) (n : Nat) : List Pt := (List.range n).map fun (i : Nat) => (k + 2 * (i : Int), k + 2 * (i : Int) + 1)
theorem mkP_len (k : Int) (n : Nat) : (mkP k n).length = n := by simp [mkP]
theorem mkP_flat (k : Int) (n : Nat) : (mkP k n).flatMap ptC = mk k (2 * n) := by
  induction n with
  | zero => rfl
  | succ n ih =>
    have e : 2 * (n + 1) = 2 * n + 1 + 1 := by omega
    rw [e, mk_succ, mk_succ, ← ih]
    have e2 : mkP k (n + 1) = mkP k n ++ [(k + 2 * (n : Int), k + 2 * (n : Int) + 1)] := by simp [mkP, List.range_succ]
    rw [e2, List.flatMap_append]
    simp [ptC]
    omega
theorem mkP_get {k : Int} {n i : Nat} (h : i < (mkP k n).length) : (mkP k n)[i] = (k + 2 * (i : Int), k + 2 * (i : Int) + 1) := by simp [mkP]

section
variable {w w' : World} {base : Nat} {e : TypeId}
theorem own_at {sz n cap : Nat} {A : Option Addr} {xs : List Value} (h : Has w base e sz (.slice A n cap) n xs) (hn : 0 < n) : ∃ g, A = some ⟨g, 0, none⟩ ∧ base ≤ g ∧ g < w.heap.size := by
  rcases h.2 with ⟨_, h1⟩ | ⟨g, cap', cur, h1, h2, h3, _⟩
  · omega
  · injection h1 with h1
    exact ⟨g, h1, h2, Row.lt (cs := cur.toList) (by unfold Row; simpa using h3)⟩
theorem only_set {a : World} {g : Nat} (h : a.grownBy w (some g)) (o : Nat) (u : Value) : a.grownBy (w.setCell ⟨g, o, none⟩ u) (some g) :=
  ⟨h.os, h.tape, h.output, by simpa [World.setCell] using h.size, fun i hi hne => (Below.heap_setCell w ⟨g, o, none⟩ u i (by rintro rfl; exact hne rfl)).trans (h.block i hi hne)⟩
theorem only_refl (w : World) (row : Option Nat) : w.grownBy w row := ⟨rfl, rfl, rfl, Nat.le_refl _, fun _ _ _ => rfl⟩
theorem only_ext {a : World} {row : Option Nat} (h : a.grownBy w row) (hx : Ext w w') : a.grownBy w' row :=
  ⟨hx.os.trans h.os, hx.tape.trans h.tape, hx.output.trans h.output, Nat.le_trans h.size hx.size, fun i hi hne => (hx.block i (Nat.lt_of_lt_of_le hi h.size)).trans (h.block i hi hne)⟩
end

/-! ### the plain functions -/
def inB (n lo hi : Int) : Bool := decide (lo ≤ n ∧ n ≤ hi)
def vpB (p : Pt) : Bool := inB p.1 (-1000) 1000 && inB p.2 (-1000) 1000
/-- At most 40 valid points. -/
def psB (ps : List Pt) : Bool := ps.all vpB && decide (ps.length ≤ 40)
def signL (n : Int) : Int := max (-1) (min 1 n)
def crossL (a b c : Pt) : Int := (b.1 - a.1) * (c.2 - b.2) - (b.2 - a.2) * (c.1 - b.1)
/-- A bound that sums and products stay far from. -/
def Crd (n : Int) : Prop := -4000 ≤ n ∧ n ≤ 4000
theorem inB_iff {n lo hi : Int} : inB n lo hi = true ↔ lo ≤ n ∧ n ≤ hi := by simp [inB]
theorem vpB_iff {p : Pt} : vpB p = true ↔ (-1000 ≤ p.1 ∧ p.1 ≤ 1000) ∧ (-1000 ≤ p.2 ∧ p.2 ≤ 1000) := by simp [vpB, inB]
theorem psB_at {ps : List Pt} (h : psB ps = true) {k : Nat} (hk : k < ps.length) : (-1000 ≤ ps[k].1 ∧ ps[k].1 ≤ 1000) ∧ (-1000 ≤ ps[k].2 ∧ ps[k].2 ≤ 1000) := by
  simp only [psB, Bool.and_eq_true, List.all_eq_true] at h
  exact vpB_iff.1 (h.1 _ (List.getElem_mem hk))
theorem psB_crd {ps : List Pt} (h : psB ps = true) {k : Nat} (hk : k < ps.length) : Crd ps[k].1 ∧ Crd ps[k].2 := by
  have := psB_at h hk
  unfold Crd; omega
theorem psB_len {ps : List Pt} (h : psB ps = true) : ps.length ≤ 40 := by
  simp only [psB, Bool.and_eq_true, decide_eq_true_eq] at h
  exact h.2

end Go.Proofs.Yteknlifgejpjfaa
