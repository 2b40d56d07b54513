/-
  The reader that draws data out of bytes: its state, and the walks of pick and one.
-/
import Derived.Test.YtalicpgnjpgloaaSlice
import Derived.Test.YtalicpgnjpgloaaPts
namespace Go.Proofs.Ytalicpgnjpgloaa
open Go Go.RowKit Reg
attribute [local go_sem] calmAt calmUpon

def byteR : World → Int → List Value → Prop := fun _ n us => us = [.int .u8 n] ∧ 0 ≤ n ∧ n ≤ 255
theorem byteR_stab : Stab byteR := fun _ _ _ _ h _ => h
theorem In.bytes {w : World} {A : Option Addr} {ns : List Int} (h : In byteR 1 w A ns) (hn : 0 < ns.length) : ∃ b off, A = some ⟨b, off, none⟩ ∧ b < w.heap.size ∧
    ∀ (k : Nat) (h : k < ns.length), w.cell? ⟨b, off + k, none⟩ = some (.int .u8 ns[k]) ∧ 0 ≤ ns[k] ∧ ns[k] ≤ 255 := by
  have hlt := h.lt (by omega) hn
  obtain ⟨b, off, hA, hc⟩ := h hn
  refine ⟨b, off, hA, hlt b off hA, fun k hk => ?_⟩
  obtain ⟨us, h1, _, h3⟩ := hc k hk
  obtain ⟨h1, h4, h5⟩ := h1
  subst h1
  have := h3 0 _ rfl
  exact ⟨by simpa using this, h4, h5⟩
/-- Block g is a reader that has drawn at most N times. -/
def Rdr (w : World) (g N : Nat) : Prop := ∃ A cap bs p, Row w g 68 [.slice A (bs : List Int).length cap, .int .i64 p] ∧ 0 ≤ p ∧ p ≤ (N : Int) ∧ In byteR 1 w A bs ∧ bs.length ≤ 2000 ∧ bs.length ≤ cap ∧ (∀ b off, A = some ⟨b, off, none⟩ → 0 < bs.length → b < g)
theorem Rdr.mono {w : World} {g N M : Nat} (h : Rdr w g N) (hNM : N ≤ M) : Rdr w g M := by
  obtain ⟨A, cap, bs, p, h1, h2, h3, h4⟩ := h
  exact ⟨A, cap, bs, p, h1, h2, by omega, h4⟩
theorem Rdr.ext {w w' : World} {g N : Nat} (h : Rdr w g N) (hx : Ext w w') : Rdr w' g N := by
  obtain ⟨A, cap, bs, p, h1, h2, h3, h4, h5⟩ := h
  exact ⟨A, cap, bs, p, h1.ext hx, h2, h3, h4.ext byteR_stab hx, h5⟩
theorem Rdr.lt {w : World} {g N : Nat} (h : Rdr w g N) : g < w.heap.size := by
  obtain ⟨A, cap, bs, p, h1, _⟩ := h
  exact h1.lt
theorem Rdr.row {w : World} {g N : Nat} (h : Rdr w g N) : ∃ cs, Row w g 68 cs := by
  obtain ⟨A, cap, bs, p, h1, _⟩ := h
  exact ⟨_, h1⟩
/-- What is owned and of another type is left alone by what turns the reader alone. -/
theorem Has.keptR {w w' : World} {B e sz n g N : Nat} {v : Value} {xs : List Value} (h : Has w B e sz v n xs) (hr : Rdr w g N) (he : e ≠ 68) (hg : w.grownBy w' (some g)) : Has w' B e sz v n xs := by
  obtain ⟨cs, hrow⟩ := hr.row
  refine h.kept hg ?_
  cases hv : v.ownBlock with
  | none => exact .inl rfl
  | some k =>
    refine .inr fun heq => ?_
    injection heq with heq
    subst heq
    rcases h.2 with ⟨rfl, _⟩ | ⟨g', cap, cur, rfl, _, h3, _⟩
    · cases hv
    · have : g' = k := by simpa [Value.ownBlock] using hv
      subst this
      unfold Row at hrow
      rw [h3] at hrow
      injection hrow with hrow
      injection hrow with _ h2
      exact he h2
theorem Row.keptR {w w' : World} {b g : Nat} {e : TypeId} {cs : List Value} (h : Row w b e cs) (hg : w.grownBy w' (some g)) (hne : b ≠ g) : Row w' b e cs := (hg.block b h.lt (fun hh => hne (by cases hh; rfl))).trans h
theorem grown_trans {a b c : World} {g : Nat} (h : a.grownBy b (some g)) (k : b.grownBy c (some g)) : a.grownBy c (some g) :=
  ⟨k.os.trans h.os, k.tape.trans h.tape, k.output.trans h.output, Nat.le_trans h.size k.size, fun i hi hne => (k.block i (Nat.lt_of_lt_of_le hi h.size) hne).trans (h.block i hi hne)⟩
theorem grown_ext {a b : World} {g : Nat} (h : Ext a b) : a.grownBy b (some g) := only_ext (only_refl a (some g)) h
theorem In.far {u : Value} {α : Type} {R : World → α → List Value → Prop} {sz : Nat} {w : World} {A : Option Addr} {xs : List α} {p : Addr} (h : In R sz w A xs) (hR : ∀ x us, R w x us → R (w.setCell p u) x us) (hp : ∀ b off, A = some ⟨b, off, none⟩ → 0 < xs.length → b ≠ p.block) : In R sz (w.setCell p u) A xs := by
  intro h0
  obtain ⟨b, off, hA, hk⟩ := h h0
  refine ⟨b, off, hA, fun k hk' => ?_⟩
  obtain ⟨us, q1, q2, q3⟩ := hk k hk'
  refine ⟨us, hR _ _ q1, q2, fun j v hu => ?_⟩
  have := q3 j v hu
  have hbg := hp b off hA h0
  unfold World.cell? at this ⊢
  rw [Below.heap_setCell w p u b hbg]
  exact this
theorem Rdr.far {w : World} {g N : Nat} (h : Rdr w g N) {p : Addr} (hp : g < p.block) (u : Value) : Rdr (w.setCell p u) g N := by
  obtain ⟨A, cap, bs, q, h1, h2, h3, h4, h5, h6, h7⟩ := h
  exact ⟨A, cap, bs, q, h1.far (by omega) u, h2, h3, h4.far (fun _ _ h => h) (fun b off hA h0 => by have := h7 b off hA h0; omega), h5, h6, h7⟩
theorem grown_far {a w : World} {g : Nat} (h : a.grownBy w (some g)) {p : Addr} (hp : a.heap.size ≤ p.block) (u : Value) : a.grownBy (w.setCell p u) (some g) :=
  ⟨h.os, h.tape, h.output, by simpa [World.setCell] using h.size, fun i hi hne => (Below.heap_setCell w p u i (by omega)).trans (h.block i hi hne)⟩
theorem grown_alloc {a w : World} {g : Nat} (h : a.grownBy w (some g)) (o : Obj) : a.grownBy (w.alloc o) (some g) := only_ext h (ext_alloc _ _)
theorem Rdr.grown {w w' : World} {g N : Nat} {row : Option Nat} (h : Rdr w g N) (hg : w.grownBy w' row) (hk : ∀ k, row = some k → g < k) : Rdr w' g N := by
  obtain ⟨A, cap, bs, q, h1, h2, h3, h4, h5, h6, h7⟩ := h
  refine ⟨A, cap, bs, q, (hg.block g h1.lt (fun hh => by have := hk g hh.symm; omega)).trans h1, h2, h3, ?_, h5, h6, h7⟩
  intro h0
  obtain ⟨b, off, hA, hc⟩ := h4 h0
  have hb := h7 b off hA h0
  refine ⟨b, off, hA, fun k hk' => ?_⟩
  obtain ⟨us, q1, q2, q3⟩ := hc k hk'
  refine ⟨us, q1, q2, fun j v hu => ?_⟩
  have := q3 j v hu
  have hlt := cell_lt this
  unfold World.cell? at this ⊢
  rw [hg.block b hlt (fun hh => by have := hk b hh.symm; omega)]
  exact this
theorem grown_own {a b c : World} {g : Nat} {row : Option Nat} (h : a.grownBy b (some g)) (k : b.grownBy c row) (hr : ∀ k, row = some k → a.heap.size ≤ k) : a.grownBy c (some g) :=
  ⟨k.os.trans h.os, k.tape.trans h.tape, k.output.trans h.output, Nat.le_trans h.size k.size, fun i hi hne => (k.block i (Nat.lt_of_lt_of_le hi h.size) (fun hh => by have := hr i hh.symm; omega)).trans (h.block i hi hne)⟩
/-- A reader of one's own. -/
theorem below_grown {B : Nat} {a b c : World} {g : Nat} (h : Below B a b) (hg : b.grownBy c (some g)) (hB : B ≤ g) (hz : B ≤ b.heap.size) : Below B a c := h.grown hg hz (fun k hk => by cases hk; exact hB)
set_option maxHeartbeats 1000000 in
theorem c_newReader (A : Option Addr) (cap : Nat) (bs : List Int) (w : World) (h : In byteR 1 w A bs) (hc : bs.length ≤ cap) (hl : cap ≤ 9223372036854775807) :
    Calls Try.prog 18 #[.slice A bs.length cap] w fun e w' => ∃ g, e = .returned (.pointer (some ⟨g, 0, none⟩)) ∧ w.heap.size ≤ g ∧ Rdr w' g 0 ∧ Below w.heap.size w w' := by
  by_cases hn : 2000 < bs.length
  · have hnI : (2000 : Int) < (bs.length : Int) := by omega
    have hcI : (2000 : Int) ≤ (cap : Int) := by omega
    have H := Lib.hid h
    clear h
    go_enter Try.func18, Try.ntmps18
    go_wp2
    go_ret
    have h2 : (bs.take 2000).length = 2000 := by rw [List.length_take]; omega
    refine ⟨w.heap.size, rfl, Nat.le_refl _, ⟨A, cap, bs.take 2000, 0, by rw [h2]; exact Row.new w 68 _, by omega, by simp, (H.out.take 2000).ext byteR_stab (ext_alloc _ _), by omega, by omega, fun b off hA h0 => ?_⟩, ext_alloc _ _⟩
    have := H.out.lt (by decide) (by omega) b off hA
    omega
  · have hnI : ¬ (2000 : Int) < (bs.length : Int) := by omega
    have H := Lib.hid h
    clear h
    go_enter Try.func18, Try.ntmps18
    go_wp2
    go_ret
    refine ⟨w.heap.size, rfl, Nat.le_refl _, ⟨A, cap, bs, 0, Row.new w 68 _, by omega, by simp, H.out.ext byteR_stab (ext_alloc _ _), by omega, hc, fun b off hA h0 => ?_⟩, ext_alloc _ _⟩
    have := H.out.lt (by decide) h0 b off hA
    omega
end Go.Proofs.Ytalicpgnjpgloaa
