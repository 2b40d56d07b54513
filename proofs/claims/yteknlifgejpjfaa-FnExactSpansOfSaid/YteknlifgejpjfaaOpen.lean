/-
  Arguments as they are read: slices of structs, nested or not, opened to cells.
-/
import Derived.Test.YteknlifgejpjfaaLib
import Derived.ProofKit
import Derived.OpenShut
import Derived.ShutString
import Derived.ChangeOld
import Derived.Deep.Slices
import Derived.Deep.Fields
import Derived.ChangeSame
namespace Go.Proofs.Yteknlifgejpjfaa
open Go Go.RowKit Go.ChangeShapes Go.WideShapes Go.ChangeAt Go.Deep Reg

/-- Whatever is read at type e has cells as R says. -/
def Opens {α : Type} (P : Program) (e : TypeId) (R : World → α → List Value → Prop) : Prop :=
  ∀ {H : Type} (enc : TypeId × Value → H) (w : World) (base : Nat) (spare : Nat → Bool) (held : Bool) (n : Nat) (cs : List Value) (y : DataW H × List MemPlace), DataW.trod enc P w base spare held n e cs = some y → ∃ x, R w x cs

/-- A slice value that reads as xs. -/
def slR {α : Type} (R : World → α → List Value → Prop) (sz : Nat) : World → List α → List Value → Prop := fun w xs us => ∃ A cap, us = [.slice A xs.length cap] ∧ In R sz w A xs ∧ xs.length ≤ maxLen ∧ xs.length ≤ cap ∧ cap ≤ maxLen ∧ (A = none → xs.length = 0 ∧ cap = 0)

theorem slR_stab {α : Type} {R : World → α → List Value → Prop} {sz : Nat} (h : Stab R) : Stab (slR R sz) := by
  rintro w w' xs us ⟨A, cap, h1, h2, h3⟩ hx
  exact ⟨A, cap, h1, h2.ext h hx, h3⟩

theorem add_block (a : Addr) (n : Nat) (h : a.spot = none) : a.add n = ⟨a.block, a.off + n, none⟩ := by
  obtain ⟨b, o, s⟩ := a
  subst h
  unfold Addr.add
  split
  · rename_i h; subst h; rfl
  · rfl

theorem opens_slice {α : Type} {P : Program} {t e : TypeId} {sz : Nat} {R : World → α → List Value → Prop} (ht : P.underlying t = some (.slice e)) (hsz : P.cellsOf e = sz) (h0 : 0 < sz) (hO : Opens P e R) : Opens P t (slR R sz) := by
  intro H enc w base spare held n cs y h
  rcases open_slice ht h with ⟨rfl, _⟩ | ⟨a, len, cap, m, n', D, Pl, rfl, hb, hl, hm, hmm, _, hi⟩
  · exact ⟨[], none, 0, rfl, In.of_nil, by simp, by simp, by simp, fun _ => ⟨rfl, rfl⟩⟩
  · have hlm : len ≤ m := by rw [hmm]; split <;> omega
    have hc : ∀ i : Fin len, ∃ x us, R w x us ∧ us.length = sz ∧ ∀ (j : Nat) u, us[j]? = some u → w.cell? (a.add (i.val * sz + j)) = some u := by
      intro i
      obtain ⟨cs', q1, q2⟩ := hi i.val (Nat.lt_of_lt_of_le i.isLt hlm)
      obtain ⟨x, hx⟩ := hO enc w base spare held n' cs' _ q2
      obtain ⟨_, q3, q4⟩ := World.cells?_some q1
      refine ⟨x, cs', hx, by rw [q3, hsz], fun j u hu => ?_⟩
      have hj : j < P.cellsOf e := by rw [← q3]; exact (List.getElem?_eq_some_iff.1 hu).1
      rw [← hsz, ← Go.Deep.add_add, q4 j hj, hu]
    have hpick : ∃ f : Fin len → α, ∀ i : Fin len, ∃ us, R w (f i) us ∧ us.length = sz ∧ ∀ (j : Nat) u, us[j]? = some u → w.cell? (a.add (i.val * sz + j)) = some u := ⟨fun i => Classical.choose (hc i), fun i => Classical.choose_spec (hc i)⟩
    obtain ⟨f, hf⟩ := hpick
    refine ⟨List.ofFn f, some a, cap, by simp, ?_, by simp; omega, by simp; omega, by omega, fun h => (by cases h)⟩
    intro hn
    simp only [List.length_ofFn] at hn
    have hs : a.spot = none := by
      obtain ⟨us, _, q2, q3⟩ := hf ⟨0, hn⟩
      have := q3 0 _ (List.getElem?_eq_getElem (by omega))
      simp only [Nat.zero_mul, Nat.zero_add] at this
      unfold World.cell? at this
      have e0 : a.add 0 = a := by simp [Addr.add]
      rw [e0] at this
      split at this
      · split at this
        · cases this
        · rename_i hsp; simpa using hsp
      · cases this
    refine ⟨a.block, a.off, by obtain ⟨b, o, s⟩ := a; simp at hs; subst hs; rfl, fun k hk => ?_⟩
    simp only [List.length_ofFn] at hk
    obtain ⟨us, q1, q2, q3⟩ := hf ⟨k, hk⟩
    refine ⟨us, by simpa using q1, q2, fun j u hu => ?_⟩
    have := q3 j u hu
    rw [add_block a _ hs] at this
    simpa [Nat.add_assoc] using this

/-- From a statement's reading of an argument to the slice that it is. -/
theorem open_arg {α : Type} {H : Type} {enc : TypeId × Value → H} {P : Program} {w : World} {base : Nat} {spare : Nat → Bool} {held : Bool} {t : TypeId} {R : World → List α → List Value → Prop} {A : Option Addr} {len cap : Nat} {d : DataW H} {p : List MemPlace} {sz : Nat} {R' : World → α → List Value → Prop}
    (hR : R = slR R' sz) (hO : Opens P t R) (h : DataW.Trod enc P w base spare held t (.slice A len cap) d p) : ∃ xs : List α, len = xs.length ∧ In R' sz w A xs ∧ xs.length ≤ cap ∧ cap ≤ maxLen := by
  subst hR
  obtain ⟨fuel, hf⟩ := h
  obtain ⟨xs, A', cap', h1, h2, h3, h4, h5, _⟩ := hO enc w base spare held fuel _ _ hf
  simp [Value.cells] at h1
  obtain ⟨rfl, rfl, rfl⟩ := h1
  exact ⟨xs, rfl, h2, h4, h5⟩

theorem opens_int {P : Program} {t : TypeId} (ht : P.underlying t = some (.int .i64)) : Opens P t (intR) := by
  intro H enc w base spare held n cs y h
  obtain ⟨x, h1, _⟩ := DataW.trod_int ht h
  exact ⟨x, h1⟩

theorem Opens.mono {α β : Type} {P : Program} {t : TypeId} {R : World → α → List Value → Prop} {R' : World → β → List Value → Prop} (h : Opens P t R) (hm : ∀ w x us, R w x us → ∃ y, R' w y us) : Opens P t R' :=
  fun enc w base spare held n cs y hh => let ⟨x, hx⟩ := h enc w base spare held n cs y hh; hm w x cs hx

theorem opens_byte {P : Program} {t : TypeId} (ht : P.underlying t = some (.int .u8)) : Opens P t (fun _ n us => us = [.int .u8 n] ∧ 0 ≤ n ∧ n ≤ 255) := by
  intro H enc w base spare held n cs y h
  obtain ⟨x, h1, _, h2⟩ := DataW.trod_int ht h
  refine ⟨x, h1, ?_⟩
  simp [Lit.wf, IntKind.min, IntKind.max, IntKind.bits, IntKind.signed] at h2
  omega
-- open_arg2
/-- Two parts, one behind the other. -/
def pairR {α β : Type} (R : World → α → List Value → Prop) (R' : World → β → List Value → Prop) : World → α × β → List Value → Prop := fun w x us => ∃ u0 u1, R w x.1 u0 ∧ R' w x.2 u1 ∧ us = u0 ++ u1

theorem opens_struct2 {α β : Type} {P : Program} {t : TypeId} {f0 f1 : Field} {c0 c1 : Nat} {R : World → α → List Value → Prop} {R' : World → β → List Value → Prop} (ht : P.underlying t = some (.struct #[f0, f1]))
    (hc : P.cellsOf t = c0 + c1) (o0 : f0.offset = 0) (o1 : f1.offset = c0) (k0 : P.cellsOf f0.type = c0) (k1 : P.cellsOf f1.type = c1) (h0 : Opens P f0.type R) (h1 : Opens P f1.type R') : Opens P t (pairR R R') := by
  intro H enc w base spare held n cs y h
  obtain ⟨y0, y1, m, _, hl, q0, q1⟩ := trod_struct2 ht h
  rw [o0, k0, List.drop_zero] at q0
  rw [o1, k1] at q1
  rw [hc] at hl
  obtain ⟨x0, r0⟩ := h0 enc w base spare held m _ _ q0
  obtain ⟨x1, r1⟩ := h1 enc w base spare held m _ _ q1
  have e : (cs.drop c0).take c1 = cs.drop c0 := List.take_of_length_le (by rw [List.length_drop]; omega)
  rw [e] at r1
  exact ⟨(x0, x1), _, _, r0, r1, (List.take_append_drop c0 cs).symm⟩

theorem opens_pt {P : Program} {t : TypeId} {f0 f1 : Field} (ht : P.underlying t = some (.struct #[f0, f1])) (hc : P.cellsOf t = 2) (o0 : f0.offset = 0) (o1 : f1.offset = 1)
    (k0 : P.cellsOf f0.type = 1) (k1 : P.cellsOf f1.type = 1) (h0 : P.underlying f0.type = some (.int .i64)) (h1 : P.underlying f1.type = some (.int .i64)) : Opens P t ptR :=
  Opens.mono (opens_struct2 (c0 := 1) (c1 := 1) ht hc o0 o1 k0 k1 (opens_int h0) (opens_int h1)) fun w x us ⟨u0, u1, r0, r1, e⟩ => ⟨x, by
    have e0 : u0 = [.int .i64 x.1] := r0
    have e1 : u1 = [.int .i64 x.2] := r1
    subst e0 e1
    exact e⟩

/-- A struct argument: its cells are as R says. -/
theorem open_struct_arg {α : Type} {H : Type} {enc : TypeId × Value → H} {P : Program} {w : World} {base : Nat} {spare : Nat → Bool} {held : Bool} {t : TypeId} {fs : Array Field} {R : World → α → List Value → Prop} {v : Value} {d : DataW H} {p : List MemPlace} {r : Reach} {b : Nat}
    (ht : P.underlying t = some (.struct fs)) (hO : Opens P t R) (hv : Value.okWide P w r b t v) (h : DataW.Trod enc P w base spare held t v d p) : ∃ x us, v = .agg us.toArray ∧ R w x us := by
  obtain ⟨cs, rfl, _⟩ := okWide_struct ht hv
  obtain ⟨fuel, hf⟩ := h
  obtain ⟨x, hx⟩ := hO enc w base spare held fuel _ _ hf
  exact ⟨x, cs.toList, by simp, hx⟩

theorem trod_struct4 {H : Type} {enc : TypeId × Value → H} {P : Program} {w : World} {base : Nat} {spare : Nat → Bool} {held : Bool} {t : TypeId} {f0 f1 f2 f3 : Field} {fuel : Nat} {cs : List Value} {x : DataW H × List MemPlace} (ht : P.underlying t = some (.struct #[f0, f1, f2, f3])) (h : DataW.trod enc P w base spare held fuel t cs = some x) :
    ∃ y0 y1 y2 y3 n, cs.length = P.cellsOf t ∧ DataW.trod enc P w base spare held n f0.type ((cs.drop f0.offset).take (P.cellsOf f0.type)) = some y0 ∧ DataW.trod enc P w base spare held n f1.type ((cs.drop f1.offset).take (P.cellsOf f1.type)) = some y1 ∧
      DataW.trod enc P w base spare held n f2.type ((cs.drop f2.offset).take (P.cellsOf f2.type)) = some y2 ∧ DataW.trod enc P w base spare held n f3.type ((cs.drop f3.offset).take (P.cellsOf f3.type)) = some y3 := by
  obtain ⟨xs, n, _, rfl, hl, hlen, hf⟩ := DataW.trod_struct ht h
  match xs, hlen with
  | [y0, y1, y2, y3], _ => exact ⟨y0, y1, y2, y3, n, hl, by simpa using hf 0 f0 rfl, by simpa using hf 1 f1 rfl, by simpa using hf 2 f2 rfl, by simpa using hf 3 f3 rfl⟩

/-- Four coordinates. -/
abbrev Bx := Int × Int × Int × Int
def bxR : World → Bx → List Value → Prop := fun _ b us => us = [.int .i64 b.1, .int .i64 b.2.1, .int .i64 b.2.2.1, .int .i64 b.2.2.2]
theorem opens_bx {P : Program} {t : TypeId} {f0 f1 f2 f3 : Field} (ht : P.underlying t = some (.struct #[f0, f1, f2, f3])) (hc : P.cellsOf t = 4)
    (ho : (f0.offset, f1.offset, f2.offset, f3.offset) = (0, 1, 2, 3)) (hk : (P.cellsOf f0.type, P.cellsOf f1.type, P.cellsOf f2.type, P.cellsOf f3.type) = (1, 1, 1, 1))
    (hi : (P.underlying f0.type, P.underlying f1.type, P.underlying f2.type, P.underlying f3.type) = (some (.int .i64), some (.int .i64), some (.int .i64), some (.int .i64))) : Opens P t bxR := by
  intro H enc w base spare held n cs y h
  obtain ⟨y0, y1, y2, y3, m, hl, q0, q1, q2, q3⟩ := trod_struct4 ht h
  injection ho with o0 ho
  injection ho with o1 ho
  injection ho with o2 o3
  injection hk with k0 hk
  injection hk with k1 hk
  injection hk with k2 k3
  injection hi with i0 hi
  injection hi with i1 hi
  injection hi with i2 i3
  rw [hc] at hl
  obtain ⟨c0, c1, c2, c3, rfl⟩ : ∃ c0 c1 c2 c3, cs = [c0, c1, c2, c3] := by
    match cs, hl with
    | [c0, c1, c2, c3], _ => exact ⟨c0, c1, c2, c3, rfl⟩
  rw [o0, k0] at q0
  rw [o1, k1] at q1
  rw [o2, k2] at q2
  rw [o3, k3] at q3
  obtain ⟨n0, e0, _⟩ := DataW.trod_int i0 q0
  obtain ⟨n1, e1, _⟩ := DataW.trod_int i1 q1
  obtain ⟨n2, e2, _⟩ := DataW.trod_int i2 q2
  obtain ⟨n3, e3, _⟩ := DataW.trod_int i3 q3
  simp at e0 e1 e2 e3
  subst e0 e1 e2 e3
  exact ⟨(n0, n1, n2, n3), rfl⟩

end Go.Proofs.Yteknlifgejpjfaa
