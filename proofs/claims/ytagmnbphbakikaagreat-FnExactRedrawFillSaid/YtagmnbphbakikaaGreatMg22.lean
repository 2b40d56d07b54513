/-
  Several texts in one: FrameO, FrameK.
-/
import Derived.Test.YtagmnbphbakikaaGreatMg20
import Derived.Test.YtagmnbphbakikaaGreatFillO
import Derived.Test.YtagmnbphbakikaaGreatMg9
import Derived.Test.YtagmnbphbakikaaGreatMg21
import Derived.Test.YtagmnbphbakikaaGreatMg26
namespace Go.Proofs.YtagmnbphbakikaaGreat
open Go Go.RowKit Go.ChangeShapes Go.WideShapes Go.ChangeAt Go.Deep Reg
attribute [local go_sem] calmAt calmUpon
theorem opens_co {P : Program} {t : TypeId} (h : Opens P t bxR) : Opens P t coR := h.mono fun w x us k => ⟨x, k⟩
/-- What is read as a picture. -/
def frR : World → Int × Int × List Bx4 → List Value → Prop := fun w x us => ∃ A cap, us = [.int .i64 x.1, .int .i64 x.2.1, .slice A x.2.2.length cap] ∧ Cos w A x.2.2 ∧ SlOk A x.2.2.length cap
theorem opens_fr {P : Program} {t : TypeId} (h : Opens P t (tripR intR intR (slR coR 4))) : Opens P t frR :=
  h.mono fun w x us ⟨u0, u1, u2, r0, r1, r2, e⟩ => by
    obtain ⟨A, cap, e2, p1, _, p2, p3, p4⟩ := r2
    have e0 : u0 = [.int .i64 x.1] := r0
    have e1 : u1 = [.int .i64 x.2.1] := r1
    subst e0 e1 e2
    exact ⟨x, A, cap, e, p1, ⟨p4, p2, p3⟩⟩
theorem tup_inj {a b p d : Value} (h : Value.tuple #[a, b] = .tuple #[p, d]) : a = p ∧ b = d := by simpa using h
/-- A slice of numbers, carried along. -/
def NumK (B1 B2 sz : Nat) (w : World) (e : TypeId) (v : Value) (n : Nat) : Prop := (B1 ≤ B2 ∧ B2 ≤ w.heap.size) ∧ NumS B1 B2 sz w e v n
theorem NumK.ext {B1 B2 sz n : Nat} {w w' : World} {e : TypeId} {v : Value} (h : NumK B1 B2 sz w e v n) (hx : Ext w w') : NumK B1 B2 sz w' e v n := ⟨⟨h.1.1, Nat.le_trans h.1.2 hx.size⟩, h.2.mk (Mk.ext hx (Nat.le_trans h.1.1 h.1.2))⟩
theorem NumK.mkd {B1 B2 sz n : Nat} {w w' : World} {e : TypeId} {v : Value} (h : NumK B1 B2 sz w e v n) (hm : Mk B1 B2 w w') : NumK B1 B2 sz w' e v n := ⟨⟨h.1.1, Nat.le_trans h.1.2 hm.below.size⟩, h.2.mk hm⟩
theorem FlsK.mkd {B1 B2 n : Nat} {w w' : World} {v : Value} (h : FlsK B1 B2 w v n) (hm : Mk B1 B2 w w') : FlsK B1 B2 w' v n := ⟨⟨h.1.1, Nat.le_trans h.1.2 hm.below.size⟩, h.2.mk hm⟩
theorem bxC_int (cs : List Bx4) : ∀ x ∈ cs.flatMap bxC, IntV x := by
  intro x hx
  obtain ⟨p, _, hp⟩ := List.mem_flatMap.1 hx
  simp only [bxC, List.mem_cons, List.not_mem_nil, or_false] at hp
  rcases hp with rfl | rfl | rfl | rfl <;> exact ⟨_, rfl⟩
theorem pts_rowF {w : World} {b : Nat} {e : TypeId} {ss : List Pt} (h : Row w b e (ss.flatMap ptC)) : Pts w (some ⟨b, 0, none⟩) ss := Row.in_ (rest := []) (enc := ptC) ptC_len (by simpa using h) (fun _ _ => rfl)
set_option maxRecDepth 100000 in
set_option maxHeartbeats 2000000 in
theorem c_markTurnW {w : World} {B1 B2 : Nat} {A : Option Addr} {n cap : Nat} (h : NumS B1 B2 2 w 101 (.slice A n cap) n) (k : Int) (h0 : 0 ≤ k) (h1 : k ≤ 4000000000000000000) :
    Calls Tryz.prog 23 #[.slice A n cap, .int .i64 k] w fun e w' => e = .returned (.int .i64 (k + 2 * n)) ∧ Mk B1 B2 w w' := by
  have hn := h.1
  have H := Lib.hid h
  clear h
  go_enter Tryz.func23, Tryz.ntmps23
  go_wp2
  go_loopw [1, 5] (fun kk i wr => ∃ j : Nat, j ≤ n ∧ i = .int .i64 j ∧ kk = .int .i64 (k + 2 * j) ∧ Mk B1 B2 w wr) (fun _ i _ => n - (intOf i).toNat)
  case atStart => exact ⟨0, Nat.zero_le _, rfl, by simp, Mk.refl _ _ _⟩
  case round =>
    obtain ⟨j, hj, rfl, rfl, hmk⟩ := hrel
    have Q := Lib.hid hmk
    clear hmk
    by_cases hlt : j < n
    · rcases (H.out.mk Q.out).2 with ⟨_, he⟩ | ⟨g, cap', he, hr⟩
      · omega
      · injection he with hA _ hc
        subst hA hc
        obtain ⟨⟨z0, c0⟩, f0, m0⟩ := hr.at (j := j * 2) (by omega)
        have hr1 := hr.mk (m0 (k + 2 * j))
        obtain ⟨_, _, m1⟩ := hr1.at (j := j * 2 + 1) (by omega)
        have Q2 := Lib.hid ((Q.out.trans (m0 _)).trans (m1 (k + 2 * j + 1)))
        obtain ⟨⟨z1, c1⟩, f1, _⟩ := hr.at (j := j * 2 + 1) (by omega)
        clear m0 m1 hr hr1
        go_wp2
        go_roundw
        case rel => exact ⟨j + 1, by omega, by go_num, by congr 1; push_cast; omega, Q2.out⟩
        case measure => simp [intOf]; omega
    · obtain rfl : j = n := by omega
      go_wp2
      go_ret
      exact ⟨rfl, Q.out⟩
set_option maxRecDepth 100000 in
set_option maxHeartbeats 2000000 in
theorem c_markColorW {w : World} {B1 B2 : Nat} {A : Option Addr} {n cap : Nat} (h : NumS B1 B2 4 w 118 (.slice A n cap) n) (k : Int) (h0 : 0 ≤ k) (h1 : k ≤ 4000000000000000000) :
    Calls Tryz.prog 49 #[.slice A n cap, .int .i64 k] w fun e w' => e = .returned (.int .i64 (k + 4 * n)) ∧ Mk B1 B2 w w' := by
  have hn := h.1
  have H := Lib.hid h
  clear h
  go_enter Tryz.func49, Tryz.ntmps49
  go_wp2
  go_loopw [1, 5] (fun kk i wr => ∃ j : Nat, j ≤ n ∧ i = .int .i64 j ∧ kk = .int .i64 (k + 4 * j) ∧ Mk B1 B2 w wr) (fun _ i _ => n - (intOf i).toNat)
  case atStart => exact ⟨0, Nat.zero_le _, rfl, by simp, Mk.refl _ _ _⟩
  case round =>
    obtain ⟨j, hj, rfl, rfl, hmk⟩ := hrel
    have Q := Lib.hid hmk
    clear hmk
    by_cases hlt : j < n
    · rcases (H.out.mk Q.out).2 with ⟨_, he⟩ | ⟨g, cap', he, hr⟩
      · omega
      · injection he with hA _ hc
        subst hA hc
        obtain ⟨⟨z0, c0⟩, f0, m0⟩ := hr.at (j := j * 4) (by omega)
        have hr1 := hr.mk (m0 (k + 4 * j))
        obtain ⟨_, _, m1⟩ := hr1.at (j := j * 4 + 1) (by omega)
        have hr2 := hr1.mk (m1 (k + 4 * j + 1))
        obtain ⟨_, _, m2⟩ := hr2.at (j := j * 4 + 2) (by omega)
        have hr3 := hr2.mk (m2 (k + 4 * j + 1 + 1))
        obtain ⟨_, _, m3⟩ := hr3.at (j := j * 4 + 3) (by omega)
        have Q2 := Lib.hid ((((Q.out.trans (m0 _)).trans (m1 _)).trans (m2 _)).trans (m3 (k + 4 * j + 1 + 1 + 1)))
        obtain ⟨⟨z1, c1⟩, f1, _⟩ := hr.at (j := j * 4 + 1) (by omega)
        obtain ⟨⟨z2, c2⟩, f2, _⟩ := hr.at (j := j * 4 + 2) (by omega)
        obtain ⟨⟨z3, c3⟩, f3, _⟩ := hr.at (j := j * 4 + 3) (by omega)
        clear m0 m1 m2 m3 hr hr1 hr2 hr3
        go_wp2
        go_roundw
        case rel => exact ⟨j + 1, by omega, by go_num, by congr 1; push_cast; omega, Q2.out⟩
        case measure => simp [intOf]; omega
    · obtain rfl : j = n := by omega
      go_wp2
      go_ret
      exact ⟨rfl, Q.out⟩
theorem c_markFrameW {w : World} {B1 B2 : Nat} (x y : Int) {A : Option Addr} {n cap : Nat} (hK : NumK B1 B2 4 w 118 (.slice A n cap) n) (k : Int) (h0 : 0 ≤ k) (h1 : k ≤ 100000000) :
    Calls Tryz.prog 16 #[frV x y A n cap, .int .i64 k] w fun e w' => e = .returned (.int .i64 (k + 4 * n)) ∧ Mk B1 B2 w w' := by
  have h := hK.2
  have hB : B1 ≤ w.heap.size := Nat.le_trans hK.1.1 hK.1.2
  have hn := h.1
  have H := Lib.hid h
  have E := Lib.hid (Ext.refl w)
  clear h hK
  go_enter Tryz.func16, Tryz.ntmps16
  go_wp2_with fail
  first | refine gen_calls ?_ | refine gen_code ?_ | refine gen_list ?_
  intro w0 hW
  obtain ⟨hb, hR0⟩ := new1 hW
  clear hW
  replace E := Lib.hid (Ext.trans E.out hb)
  clear hb
  have R0 := Lib.hid hR0
  have lR0 := R0.out.lt
  clear hR0
  have c0 := R0.out.cell_of (i := 0) rfl
  have c1 := R0.out.cell_of (i := 1) rfl
  have c2 := R0.out.cell_of (i := 2) rfl
  go_wp2_with fail
  clear c0 c1 c2
  refine (c_markColorW (H.out.mk (Mk.ext E.out hB)) k h0 (by omega)).mono ?_
  rintro e w1 ⟨rfl, hm⟩
  have Q := Lib.hid ((Mk.ext E.out hB).trans hm)
  clear hm
  go_wp2
  go_ret
  exact ⟨rfl, Q.out⟩
end Go.Proofs.YtagmnbphbakikaaGreat
namespace Go.Proofs.YtagmnbphbakikaaGreat
open Go Go.RowKit Reg
attribute [local go_sem] calmAt calmUpon
theorem lst_ne2 {l : Array Bool} {i j : Nat} (h : i ≠ j) : (l.setIfInBounds i true).getD j false = l.getD j false := getD_set_ne false h
theorem lst_mono {l : Array Bool} {i j : Nat} (h : l.getD j false = true) : (l.setIfInBounds i true).getD j false = true := by
  by_cases e : i = j
  · subst e
    by_cases hp : i < l.size
    · rw [Array.getD_eq_getD_getElem?, Array.getElem?_setIfInBounds_self_of_lt hp]; rfl
    · rw [Array.getD_eq_getD_getElem?, Array.getElem?_eq_none (by omega)] at h
      cases h
  · rw [lst_ne2 e]; exact h
theorem getD_out {l : Array Bool} {i n : Nat} (h : l.size = n) (hi : n ≤ i) : l.getD i false = false := by
  rw [Array.getD_eq_getD_getElem?, Array.getElem?_eq_none (by omega)]; rfl
theorem tupI {a b p d : Value} (h : Value.tuple #[a, b] = .tuple #[p, d]) : a = p ∧ b = d := by simpa using h
/-- A picture and whether there is one. -/
def tupV (R : (Int × Int × List Bx4) × Bool) (A : Option Addr) (cap : Nat) : Value := .tuple #[frV R.1.1 R.1.2.1 A R.1.2.2.length cap, .bool R.2]
/-- What is listed: the operations before k (F), the call k, the value moved k+1, its parts k+2 and k+3, the memory k+4, the store k+5, the answer k+6. -/
structure FjJ (k : Nat) (B : Nat) (R : (Int × Int × List Bx4) × Bool) (F : Nat → Value → World → Prop) (l : Array Bool) (vals : Nat → Value) (w : World) : Prop where
  early : ∀ i, i < k → l.getD i false = true → l.getD k false = false → F i (vals i) w
  call : l.getD k false = true → ∃ A cap, vals k = tupV R A cap ∧ Has w B 118 4 (.slice A R.1.2.2.length cap) R.1.2.2.length (R.1.2.2.flatMap bxC)
  mv : l.getD (k + 1) false = true → l.getD k false = true ∧ vals (k + 1) = vals k
  e0 : l.getD (k + 2) false = true → l.getD k false = true ∧ ∀ p d, vals k = .tuple #[p, d] → vals (k + 2) = p
  e1 : l.getD (k + 3) false = true → l.getD k false = true ∧ ∀ p d, vals k = .tuple #[p, d] → vals (k + 3) = d
  mem : l.getD (k + 4) false = true → ∃ g cs, vals (k + 4) = .pointer (some ⟨g, 0, none⟩) ∧ B ≤ g ∧ Row w g 37 cs ∧ cs.length = 3 ∧ (l.getD (k + 5) false = true → ∃ A cap, vals k = tupV R A cap ∧ cs = [.int .i64 R.1.1, .int .i64 R.1.2.1, .slice A R.1.2.2.length cap])
  cl : l.getD (k + 5) false = true → l.getD k false = true ∧ l.getD (k + 4) false = true
  asg : l.getD (k + 6) false = true → l.getD k false = true ∧ ∀ p d, vals k = .tuple #[p, d] → vals (k + 6) = d
section
variable {k : Nat} {B : Nat} {R : (Int × Int × List Bx4) × Bool} {F : Nat → Value → World → Prop} {l : Array Bool} {vals : Nat → Value} {w w' : World}
theorem FjJ.start (hE : ∀ i, i < k → l.getD i false = true → ∀ v w, F i v w) (hk : ∀ i, k ≤ i → l.getD i false = false) : FjJ k B R F l vals w := by
  have no : ∀ i, k ≤ i → ∀ q : Prop, l.getD i false = true → q := fun i hi q h => by rw [hk i hi] at h; cases h
  exact ⟨fun i hi hl _ => hE i hi hl _ _, no _ (by omega) _, no _ (by omega) _, no _ (by omega) _, no _ (by omega) _, no _ (by omega) _, no _ (by omega) _, no _ (by omega) _⟩
theorem FjJ.ext (hF : ∀ i v w w', F i v w → Ext w w' → F i v w') (h : FjJ k B R F l vals w) (hx : Ext w w') : FjJ k B R F l vals w' :=
  ⟨fun i hi hl hs => hF _ _ _ _ (h.early i hi hl hs) hx, fun q => by obtain ⟨A, cap, h1, h2⟩ := h.call q; exact ⟨A, cap, h1, own_ext h2 hx⟩, h.mv, h.e0, h.e1, fun q => by
    obtain ⟨g, cs, h1, h2, h3, h4, h5⟩ := h.mem q
    exact ⟨g, cs, h1, h2, h3.ext hx, h4, h5⟩, h.cl, h.asg⟩
/-- An operation before the call. -/
theorem FjJ.step (hF : ∀ i v w w', F i v w → Ext w w' → F i v w') (h : FjJ k B R F l vals w) (hx : Ext w w') {i : Nat} (hi : i < k) (v : Value) (hv : F i v w') : FjJ k B R F (l.setIfInBounds i true) (upd vals i v) w' := by
  have h' := h.ext hF hx
  have n : ∀ j, k ≤ j → (l.setIfInBounds i true).getD j false = l.getD j false := fun j hj => lst_ne2 (by omega)
  have u : ∀ j, k ≤ j → upd vals i v j = vals j := fun j hj => upd_ne (by omega)
  refine ⟨fun j hj hl hs => ?_, ?_, ?_, ?_, ?_, ?_, ?_, ?_⟩
  · rw [n _ (by omega)] at hs
    by_cases e : j = i
    · subst e; rw [upd_same]; exact hv
    · rw [upd_ne e]
      rw [lst_ne2 (Ne.symm e)] at hl
      exact h'.early j hj hl hs
  · rw [n _ (by omega), u _ (by omega)]; exact h'.call
  · rw [n _ (by omega), n _ (by omega), u _ (by omega), u _ (by omega)]; exact h'.mv
  · rw [n _ (by omega), n _ (by omega), u _ (by omega), u _ (by omega)]; exact h'.e0
  · rw [n _ (by omega), n _ (by omega), u _ (by omega), u _ (by omega)]; exact h'.e1
  · rw [n _ (by omega), n _ (by omega), u _ (by omega), u _ (by omega)]; exact h'.mem
  · rw [n _ (by omega), n _ (by omega), n _ (by omega)]; exact h'.cl
  · rw [n _ (by omega), n _ (by omega), u _ (by omega), u _ (by omega)]; exact h'.asg
/-- The call. -/
theorem FjJ.called (hF : ∀ i v w w', F i v w → Ext w w' → F i v w') (h : FjJ k B R F l vals w) (hx : Ext w w') (hc : l.getD k false = false) (A : Option Addr) (cap : Nat) (ho : Has w' B 118 4 (.slice A R.1.2.2.length cap) R.1.2.2.length (R.1.2.2.flatMap bxC)) :
    FjJ k B R F (l.setIfInBounds k true) (upd vals k (tupV R A cap)) w' := by
  have h' := h.ext hF hx
  have n : ∀ j, j ≠ k → (l.setIfInBounds k true).getD j false = l.getD j false := fun j hj => lst_ne2 (Ne.symm hj)
  have u : ∀ j, j ≠ k → upd vals k (tupV R A cap) j = vals j := fun j hj => upd_ne hj
  have no : ∀ q : Prop, l.getD k false = true → q := fun q hq => by rw [hc] at hq; cases hq
  refine ⟨fun j hj hl hs => ?_, fun _ => ⟨A, cap, upd_same _ _ _, ho⟩, fun q => ?_, fun q => ?_, fun q => ?_, fun q => ?_, fun q => ?_, fun q => ?_⟩
  · rw [n _ (by omega)] at hl
    rw [u _ (by omega)]; exact h'.early j hj hl hc
  · rw [n _ (by omega)] at q; exact no _ (h'.mv q).1
  · rw [n _ (by omega)] at q; exact no _ (h'.e0 q).1
  · rw [n _ (by omega)] at q; exact no _ (h'.e1 q).1
  · rw [n _ (by omega)] at q
    obtain ⟨g, cs, h1, h2, h3, h4, _⟩ := h'.mem q
    rw [n _ (by omega), u _ (by omega)]
    exact ⟨g, cs, h1, h2, h3, h4, fun s => no _ (h'.cl s).1⟩
  · rw [n _ (by omega)] at q; exact no _ (h'.cl q).1
  · rw [n _ (by omega)] at q; exact no _ (h'.asg q).1
/-- An operation behind the call that leaves the world: j = k+1, k+2, k+3 or k+6. -/
theorem FjJ.pure_ (h : FjJ k B R F l vals w) (hc : l.getD k false = true) {j : Nat} (hj : j = k + 1 ∨ j = k + 2 ∨ j = k + 3 ∨ j = k + 6) (v : Value) (h1 : j = k + 1 → v = vals k) (h2 : j = k + 2 → ∀ p d, vals k = .tuple #[p, d] → v = p) (h3 : j = k + 3 ∨ j = k + 6 → ∀ p d, vals k = .tuple #[p, d] → v = d) :
    FjJ k B R F (l.setIfInBounds j true) (upd vals j v) w := by
  have n : ∀ i, i ≠ j → (l.setIfInBounds j true).getD i false = l.getD i false := fun i hi => lst_ne2 (Ne.symm hi)
  have u : ∀ i, i ≠ j → upd vals j v i = vals i := fun i hi => upd_ne hi
  have hk : (l.setIfInBounds j true).getD k false = true := lst_mono hc
  have uk : upd vals j v k = vals k := u k (by omega)
  refine ⟨fun i hi hl hs => ?_, fun _ => ?_, fun q => ⟨hk, ?_⟩, fun q => ⟨hk, ?_⟩, fun q => ⟨hk, ?_⟩, fun q => ?_, fun q => ⟨hk, ?_⟩, fun q => ⟨hk, ?_⟩⟩
  · rw [n _ (by omega)] at hs hl
    rw [u _ (by omega)]; exact h.early i hi hl hs
  · rw [uk]; exact h.call hc
  · rw [uk]
    by_cases e : j = k + 1
    · rw [← e, upd_same]; exact h1 e
    · rw [n _ (Ne.symm e)] at q; rw [u _ (Ne.symm e)]; exact (h.mv q).2
  · rw [uk]
    by_cases e : j = k + 2
    · rw [← e, upd_same]; exact h2 e
    · rw [n _ (Ne.symm e)] at q; rw [u _ (Ne.symm e)]; exact (h.e0 q).2
  · rw [uk]
    by_cases e : j = k + 3
    · rw [← e, upd_same]; exact h3 (.inl e)
    · rw [n _ (Ne.symm e)] at q; rw [u _ (Ne.symm e)]; exact (h.e1 q).2
  · rw [n _ (by omega)] at q
    rw [n _ (by omega), u _ (by omega), uk]; exact h.mem q
  · rw [n _ (by omega)] at q; rw [n _ (by omega)]; exact (h.cl q).2
  · rw [uk]
    by_cases e : j = k + 6
    · rw [← e, upd_same]; exact h3 (.inr e)
    · rw [n _ (Ne.symm e)] at q; rw [u _ (Ne.symm e)]; exact (h.asg q).2
/-- The memory. -/
theorem FjJ.allocd (hF : ∀ i v w w', F i v w → Ext w w' → F i v w') (h : FjJ k B R F l vals w) (hm : l.getD (k + 4) false = false) (hB : B ≤ w.heap.size) :
    FjJ k B R F (l.setIfInBounds (k + 4) true) (upd vals (k + 4) (.pointer (some ⟨w.heap.size, 0, none⟩))) (w.alloc (.cells #[.int .i64 0, .int .i64 0, .slice none 0 0] 37)) := by
  have h' := h.ext hF (ext_alloc w (.cells #[.int .i64 0, .int .i64 0, .slice none 0 0] 37))
  have n : ∀ i, i ≠ k + 4 → (l.setIfInBounds (k + 4) true).getD i false = l.getD i false := fun i hi => lst_ne2 (Ne.symm hi)
  have u : ∀ i, i ≠ k + 4 → upd vals (k + 4) (.pointer (some ⟨w.heap.size, 0, none⟩)) i = vals i := fun i hi => upd_ne hi
  have no : ∀ q : Prop, l.getD (k + 5) false = true → q := fun q hq => by have := (h.cl hq).2; rw [hm] at this; cases this
  refine ⟨fun i hi hl hs => ?_, fun q => ?_, fun q => ?_, fun q => ?_, fun q => ?_, fun _ => ⟨w.heap.size, _, upd_same _ _ _, hB, Row.new w 37 [.int .i64 0, .int .i64 0, .slice none 0 0], rfl, fun q => ?_⟩, fun q => ?_, fun q => ?_⟩
  · rw [n _ (by omega)] at hs hl
    rw [u _ (by omega)]; exact h'.early i hi hl hs
  · rw [n _ (by omega)] at q; rw [u _ (by omega)]; exact h'.call q
  · rw [n _ (by omega)] at q; rw [n _ (by omega), u _ (by omega), u _ (by omega)]; exact h'.mv q
  · rw [n _ (by omega)] at q; rw [n _ (by omega), u _ (by omega), u _ (by omega)]; exact h'.e0 q
  · rw [n _ (by omega)] at q; rw [n _ (by omega), u _ (by omega), u _ (by omega)]; exact h'.e1 q
  · rw [n _ (by omega)] at q; exact no _ q
  · rw [n _ (by omega)] at q; exact no _ q
  · rw [n _ (by omega)] at q; rw [n _ (by omega), u _ (by omega), u _ (by omega)]; exact h'.asg q
/-- The store. -/
theorem FjJ.stored (h : FjJ k B R F l vals w) (hc : l.getD k false = true) (hm : l.getD (k + 4) false = true) {g : Nat} (hg : vals (k + 4) = .pointer (some ⟨g, 0, none⟩)) (v : Value) {cs : List Value} (hr : Row w g 37 cs) (hl : cs.length = 3) {A : Option Addr} {cap : Nat} (hv : vals k = tupV R A cap) :
    FjJ k B R F (l.setIfInBounds (k + 5) true) (upd vals (k + 5) v) (((w.setCell ⟨g, 0, none⟩ (.int .i64 R.1.1)).setCell ⟨g, 1, none⟩ (.int .i64 R.1.2.1)).setCell ⟨g, 2, none⟩ (.slice A R.1.2.2.length cap)) := by
  have n : ∀ i, i ≠ k + 5 → (l.setIfInBounds (k + 5) true).getD i false = l.getD i false := fun i hi => lst_ne2 (Ne.symm hi)
  have u : ∀ i, i ≠ k + 5 → upd vals (k + 5) v i = vals i := fun i hi => upd_ne hi
  have hg2 : w.grownBy (((w.setCell ⟨g, 0, none⟩ (.int .i64 R.1.1)).setCell ⟨g, 1, none⟩ (.int .i64 R.1.2.1)).setCell ⟨g, 2, none⟩ (.slice A R.1.2.2.length cap)) (some g) := sets3 w g 0 _ _ _
  refine ⟨fun i hi _ hs2 => ?_, fun _ => ?_, fun q => ?_, fun q => ?_, fun q => ?_, fun _ => ?_, fun _ => ?_, fun q => ?_⟩
  · rw [n _ (by omega), hc] at hs2
    cases hs2
  · rw [u _ (by omega)]
    obtain ⟨A', cap', h1, h2⟩ := h.call hc
    exact ⟨A', cap', h1, h2.keptB hr (by decide) hg2⟩
  · rw [n _ (by omega)] at q; rw [n _ (by omega), u _ (by omega), u _ (by omega)]; exact h.mv q
  · rw [n _ (by omega)] at q; rw [n _ (by omega), u _ (by omega), u _ (by omega)]; exact h.e0 q
  · rw [n _ (by omega)] at q; rw [n _ (by omega), u _ (by omega), u _ (by omega)]; exact h.e1 q
  · rw [u _ (by omega), u _ (by omega)]
    obtain ⟨g', _, h1, h2, _⟩ := h.mem hm
    rw [hg] at h1
    obtain rfl : g = g' := by injection h1 with h; injection h with h; injection h with h _ _
    match cs, hl with
    | [a, b, d], _ => exact ⟨g, _, hg, h2, ((hr.set_ 0 _).set_ 1 _).set_ 2 _, rfl, fun _ => ⟨A, cap, hv, rfl⟩⟩
  · rw [n _ (by omega), n _ (by omega)]; exact ⟨hc, hm⟩
  · rw [n _ (by omega)] at q; rw [n _ (by omega), u _ (by omega), u _ (by omega)]; exact h.asg q
end
/-! ### the operations, whatever the act -/
section
variable {a : Act} {w : World} {o : Oper} {K : Act → World → Prop} {Q : Exit → Act → World → Prop}
theorem wp_move {x : Operand} {v : Value} (hop : o.op = .move x) (hx : a.eval x = v) (h : K (a.put o.dst v) w) : o.wp Tryz.prog a w K Q := by
  unfold Oper.wp
  simp only [execOp, hop, hx]
  exact h
theorem wp_assign {x : Operand} {v : Value} (hop : o.op = .assign x) (hx : a.eval x = v) (h : K (a.put o.dst v) w) : o.wp Tryz.prog a w K Q := by
  unfold Oper.wp
  simp only [execOp, hop, hx]
  exact h
theorem wp_extract0 {x : Operand} {p d : Value} (hop : o.op = .extract x 0) (hx : a.eval x = .tuple #[p, d]) (h : K (a.put o.dst p) w) : o.wp Tryz.prog a w K Q := by
  unfold Oper.wp
  simp only [execOp, hop, hx]
  exact h
theorem wp_extract1 {x : Operand} {p d : Value} (hop : o.op = .extract x 1) (hx : a.eval x = .tuple #[p, d]) (h : K (a.put o.dst d) w) : o.wp Tryz.prog a w K Q := by
  unfold Oper.wp
  simp only [execOp, hop, hx]
  exact h
theorem wp_allocF (hop : o.op = .alloc 37) (h : K (a.put o.dst (.pointer (some ⟨w.heap.size, 0, none⟩))) (w.alloc (.cells #[.int .i64 0, .int .i64 0, .slice none 0 0] 37))) : o.wp Tryz.prog a w K Q := by
  unfold Oper.wp
  simp only [execOp, hop]
  go_simp
  exact h
theorem wp_storeF {x y : Operand} {g : Nat} {W H : Int} {A : Option Addr} {n cap : Nat} {cs : List Value} (hop : o.op = .store 37 x y) (hx : a.eval x = .pointer (some ⟨g, 0, none⟩)) (hy : a.eval y = frV W H A n cap) (hr : Row w g 37 cs) (hl : cs.length = 3)
    (h : ∀ v, K (a.put o.dst v) (((w.setCell ⟨g, 0, none⟩ (.int .i64 W)).setCell ⟨g, 1, none⟩ (.int .i64 H)).setCell ⟨g, 2, none⟩ (.slice A n cap))) : o.wp Tryz.prog a w K Q := by
  match cs, hl with
  | [u0, u1, u2], _ =>
  have e0 := hr.cell_of (i := 0) rfl
  have z0 := hr.frozen 0
  have r1 := hr.set_ 0 (.int .i64 W)
  have e1 := r1.cell_of (i := 1) rfl
  have z1 := r1.frozen 1
  have r2 := r1.set_ 1 (.int .i64 H)
  have e2 := r2.cell_of (i := 2) rfl
  have z2 := r2.frozen 2
  unfold Oper.wp
  simp only [execOp, hop, hx, hy]
  go_simp
  exact h _
theorem wp_callF {f : FuncId} {fn : Func} {xs : Array Operand} {ts : Array TypeId} {args : Array Value} {R : Ending → World → Prop} (hop : o.op = .call { callee := .value (.func f), args := xs, argTypes := ts }) (hf : Tryz.prog.funcs[f]? = some fn) (hn : (fn.name == "runtime.NumGoroutine") = false) (hb : fn.body.isNone = false) (hx : xs.map a.eval = args)
    (hc : Calls Tryz.prog f args w R) (h : ∀ e w', R e w' → ∃ v, e = .returned v ∧ K (a.put o.dst v) w') : o.wp Tryz.prog a w K Q := by
  unfold Oper.wp
  rw [run_call_fn w hop hf hn hb, hx]
  simp only [Oper.upon]
  refine hc.mono ?_
  intro e w' hr
  obtain ⟨v, rfl, hk⟩ := h e w' hr
  exact hk
end
section
variable {k : Nat} {B : Nat} {R : (Int × Int × List Bx4) × Bool} {F : Nat → Value → World → Prop} {w0 : World} {ops : Array Oper} {Q : Exit → Act → World → Prop} {a0 : Act} {lates : List (Nat × Option Tmp)} {d : Option Tmp} {o : Oper} {x y : Operand}
theorem FjJ.early_op {i : Nat} (hik : i < k) (hi : ops[i]? = some o) (hw : ∀ vals : Nat → Value, Region.wanted o (yielded ops (canon a0 lates vals).tmps) = true) {f : FuncId} {fn : Func} {xs : Array Operand} {ts : Array TypeId} {args : Array Value} (hop : o.op = .call { callee := .value (.func f), args := xs, argTypes := ts }) (hd : o.dst = d) (hf : Tryz.prog.funcs[f]? = some fn) (hn : (fn.name == "runtime.NumGoroutine") = false) (hb : fn.body.isNone = false)
    (hx : ∀ vals : Nat → Value, xs.map (canon a0 lates vals).eval = args) (hF : ∀ i v w w', F i v w → Ext w w' → F i v w') (hc : ∀ w', Cls w0 w' → Calls Tryz.prog f args w' fun e w'' => ∃ v, e = .returned v ∧ F i v w'' ∧ Below w'.heap.size w' w'') : StepJ Tryz.prog w0 ops Q a0 lates (FjJ k B R F) (i, d) := by
  refine step_op hi hw (fun listed vals w' hC hl' hn' hJ K hK => ?_)
  refine wp_callF hop hf hn hb (hx vals) (hc w' hC) ?_
  rintro e w'' ⟨v, rfl, hv, hb2⟩
  exact ⟨v, rfl, hK _ v _ (by rw [hd]) (Cls.ext hC hb2) (hJ.step hF hb2 hik v hv)⟩
theorem FjJ.call_op (hi : ops[k]? = some o) (hw : ∀ vals : Nat → Value, Region.wanted o (yielded ops (canon a0 lates vals).tmps) = true) {f : FuncId} {fn : Func} {xs : Array Operand} {ts : Array TypeId} {args : (Nat → Value) → Array Value} (hop : o.op = .call { callee := .value (.func f), args := xs, argTypes := ts }) (hd : o.dst = d) (hf : Tryz.prog.funcs[f]? = some fn) (hn : (fn.name == "runtime.NumGoroutine") = false) (hb : fn.body.isNone = false)
    (hx : ∀ vals : Nat → Value, xs.map (canon a0 lates vals).eval = args vals) (hF : ∀ i v w w', F i v w → Ext w w' → F i v w') (hB : B = w0.heap.size)
    (hc : ∀ (vals : Nat → Value) w', Cls w0 w' → (∀ i, i < k → waits ops k i = true → F i (vals i) w') → Calls Tryz.prog f (args vals) w' fun e w'' => ∃ A cap, e = .returned (tupV R A cap) ∧ Has w'' w'.heap.size 118 4 (.slice A R.1.2.2.length cap) R.1.2.2.length (R.1.2.2.flatMap bxC) ∧ Below w'.heap.size w' w'') : StepJ Tryz.prog w0 ops Q a0 lates (FjJ k B R F) (k, d) := by
  refine step_op hi hw (fun listed vals w' hC hl' hn' hJ K hK => ?_)
  refine wp_callF hop hf hn hb (hx vals) (hc vals w' hC (fun i hik hwt => hJ.early i hik (hn' i hwt) hl')) ?_
  rintro e w'' ⟨A, cap, rfl, ho, hb2⟩
  exact ⟨_, rfl, hK _ (tupV R A cap) _ (by rw [hd]) (Cls.ext hC hb2) (hJ.called hF hb2 hl' A cap (ho.rebase (by rw [hB]; exact hC.size)))⟩
theorem FjJ.move_op (hi : ops[k + 1]? = some o) (hw : ∀ vals : Nat → Value, Region.wanted o (yielded ops (canon a0 lates vals).tmps) = true) (hop : o.op = .move x) (hd : o.dst = d) (hx : ∀ vals : Nat → Value, (canon a0 lates vals).eval x = vals k) (h5 : waits ops (k + 1) k = true) : StepJ Tryz.prog w0 ops Q a0 lates (FjJ k B R F) (k + 1, d) := by
  refine step_op hi hw (fun listed vals w' hC hl' hn' hJ K hK => ?_)
  have h5 := hn' _ h5
  exact wp_move hop (hx vals) (hK _ (vals k) _ (by rw [hd]) hC (hJ.pure_ h5 (j := k + 1) (.inl rfl) (vals k) (fun _ => rfl) (fun h => by omega) (fun h => by omega)))
theorem FjJ.ext0_op (hi : ops[k + 2]? = some o) (hw : ∀ vals : Nat → Value, Region.wanted o (yielded ops (canon a0 lates vals).tmps) = true) (hop : o.op = .extract x 0) (hd : o.dst = d) (hx : ∀ vals : Nat → Value, (canon a0 lates vals).eval x = vals (k + 1)) (h6 : waits ops (k + 2) (k + 1) = true) : StepJ Tryz.prog w0 ops Q a0 lates (FjJ k B R F) (k + 2, d) := by
  refine step_op hi hw (fun listed vals w' hC hl' hn' hJ K hK => ?_)
  obtain ⟨h5, k6⟩ := hJ.mv (hn' _ h6)
  obtain ⟨A, cap, k5, _⟩ := hJ.call h5
  exact wp_extract0 hop ((hx vals).trans (k6.trans k5)) (hK _ _ _ (by rw [hd]) hC (hJ.pure_ h5 (j := k + 2) (.inr (.inl rfl)) _ (fun h => by omega) (fun _ p d hp => by rw [k5] at hp; exact (tupI hp).1) (fun h => by omega)))
theorem FjJ.ext1_op (hi : ops[k + 3]? = some o) (hw : ∀ vals : Nat → Value, Region.wanted o (yielded ops (canon a0 lates vals).tmps) = true) (hop : o.op = .extract x 1) (hd : o.dst = d) (hx : ∀ vals : Nat → Value, (canon a0 lates vals).eval x = vals (k + 1)) (h6 : waits ops (k + 3) (k + 1) = true) : StepJ Tryz.prog w0 ops Q a0 lates (FjJ k B R F) (k + 3, d) := by
  refine step_op hi hw (fun listed vals w' hC hl' hn' hJ K hK => ?_)
  obtain ⟨h5, k6⟩ := hJ.mv (hn' _ h6)
  obtain ⟨A, cap, k5, _⟩ := hJ.call h5
  exact wp_extract1 hop ((hx vals).trans (k6.trans k5)) (hK _ _ _ (by rw [hd]) hC (hJ.pure_ h5 (j := k + 3) (.inr (.inr (.inl rfl))) _ (fun h => by omega) (fun h => by omega) (fun _ p d hp => by rw [k5] at hp; exact (tupI hp).2)))
theorem FjJ.alloc_op (hi : ops[k + 4]? = some o) (hw : ∀ vals : Nat → Value, Region.wanted o (yielded ops (canon a0 lates vals).tmps) = true) (hop : o.op = .alloc 37) (hd : o.dst = d) (hF : ∀ i v w w', F i v w → Ext w w' → F i v w') (hB : B = w0.heap.size) : StepJ Tryz.prog w0 ops Q a0 lates (FjJ k B R F) (k + 4, d) := by
  refine step_op hi hw (fun listed vals w' hC hl' hn' hJ K hK => ?_)
  exact wp_allocF hop (hK _ (.pointer (some ⟨w'.heap.size, 0, none⟩)) _ (by rw [hd]) (Below.alloc hC hC.size _) (hJ.allocd hF hl' (by rw [hB]; exact hC.size)))
theorem FjJ.store_op (hi : ops[k + 5]? = some o) (hw : ∀ vals : Nat → Value, Region.wanted o (yielded ops (canon a0 lates vals).tmps) = true) (hop : o.op = .store 37 x y) (hd : o.dst = none) (hB : B = w0.heap.size) (hx : ∀ vals : Nat → Value, (canon a0 lates vals).eval x = vals (k + 4)) (hy : ∀ vals : Nat → Value, (canon a0 lates vals).eval y = vals (k + 2))
    (h5 : waits ops (k + 5) k = true) (h7 : waits ops (k + 5) (k + 2) = true) (h9 : waits ops (k + 5) (k + 4) = true) : StepJ Tryz.prog w0 ops Q a0 lates (FjJ k B R F) (k + 5, none) := by
  refine step_op hi hw (fun listed vals w' hC hl' hn' hJ K hK => ?_)
  have h5 := hn' _ h5
  have h7 := hn' _ h7
  have h9 := hn' _ h9
  obtain ⟨g, cs3, k1, k2, k3, q5, _⟩ := hJ.mem h9
  obtain ⟨A, cap, k5, _⟩ := hJ.call h5
  have k7 : vals (k + 2) = frV R.1.1 R.1.2.1 A R.1.2.2.length cap := (hJ.e0 h7).2 _ _ k5
  have b3 := set3_below hC (show w0.heap.size ≤ g by rw [← hB]; exact k2) (.int .i64 R.1.1) (.int .i64 R.1.2.1) (.slice A R.1.2.2.length cap)
  exact wp_storeF hop ((hx vals).trans k1) ((hy vals).trans k7) k3 q5 (fun v => hK _ v _ (by rw [hd]) b3 (hJ.stored h5 h9 k1 v k3 q5 k5))
theorem FjJ.asg_op (hi : ops[k + 6]? = some o) (hw : ∀ vals : Nat → Value, Region.wanted o (yielded ops (canon a0 lates vals).tmps) = true) (hop : o.op = .assign x) (hd : o.dst = d) (hx : ∀ vals : Nat → Value, (canon a0 lates vals).eval x = vals (k + 3)) (h8 : waits ops (k + 6) (k + 3) = true) : StepJ Tryz.prog w0 ops Q a0 lates (FjJ k B R F) (k + 6, d) := by
  refine step_op hi hw (fun listed vals w' hC hl' hn' hJ K hK => ?_)
  obtain ⟨h5, k8⟩ := hJ.e1 (hn' _ h8)
  obtain ⟨A, cap, k5, _⟩ := hJ.call h5
  have k8 : vals (k + 3) = .bool R.2 := k8 _ _ k5
  exact wp_assign hop ((hx vals).trans k8) (hK _ _ _ (by rw [hd]) hC (hJ.pure_ h5 (j := k + 6) (.inr (.inr (.inr rfl))) _ (fun h => by omega) (fun h => by omega) (fun _ p d hp => by rw [k5] at hp; exact (tupI hp).2)))
/-- What is left when all is listed. -/
theorem FjJ.done {l : Array Bool} {vals : Nat → Value} {w : World} (h : FjJ k B R F l vals w) (h5 : l.getD k false = true) (h9 : l.getD (k + 4) false = true) (h10 : l.getD (k + 5) false = true) (h11 : l.getD (k + 6) false = true) :
    ∃ A cap g, vals (k + 4) = .pointer (some ⟨g, 0, none⟩) ∧ vals (k + 6) = .bool R.2 ∧ B ≤ g ∧ Row w g 37 [.int .i64 R.1.1, .int .i64 R.1.2.1, .slice A R.1.2.2.length cap] ∧ Has w B 118 4 (.slice A R.1.2.2.length cap) R.1.2.2.length (R.1.2.2.flatMap bxC) := by
  obtain ⟨A3, cap3, k5, ho⟩ := h.call h5
  obtain ⟨g, cs3, k1, k2, k3, _, k7⟩ := h.mem h9
  obtain ⟨A4, cap4, k6, rfl⟩ := k7 h10
  have k8 : vals (k + 6) = .bool R.2 := (h.asg h11).2 _ _ k5
  rw [k5] at k6
  have hAc : A3 = A4 ∧ cap3 = cap4 := by
    have := (tupI k6).1
    injection this with this
    simp at this
    exact this
  obtain ⟨rfl, rfl⟩ := hAc
  exact ⟨A3, cap3, g, k1, k8, k2, k3, ho⟩
end
end Go.Proofs.YtagmnbphbakikaaGreat
