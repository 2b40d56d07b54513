/-
  Crossings of a row: the reference's walks.
-/
import Derived.Test.YteknlifgejpjfaaCrsL
import Derived.Test.YteknlifgejpjfaaPair
import Derived.Test.YteknlifgejpjfaaRegionJ
namespace Go.Proofs.Yteknlifgejpjfaa
open Go Go.RowKit Reg
attribute [local go_sem] calmAt calmUpon
/-- Pairs returned, in a row of their own. -/
def RetP (T : TypeId) (w : World) (cs : List Pt) (e : Ending) (w' : World) : Prop := ∃ A' cap', e = .returned (.slice A' cs.length cap') ∧ Has w' w.heap.size T 2 (.slice A' cs.length cap') cs.length (cs.flatMap ptC) ∧ Below w.heap.size w w'
theorem RetP.none {T : TypeId} {w w' : World} {cs : List Pt} (h : cs = []) (hb : Below w.heap.size w w') : RetP T w cs (.returned (.slice Option.none 0 0)) w' := by
  subst h; exact ⟨.none, 0, rfl, own_nil _ _ _ _, hb⟩
theorem dir_step (y : Int) (a b : Pt) : dirE y a b = stepS y a b := rfl
set_option maxHeartbeats 2000000 in
theorem c_before (a b : Pt) (w : World) : Calls Try.prog 54 #[.agg #[.int .i64 a.1, .int .i64 a.2], .agg #[.int .i64 b.1, .int .i64 b.2]] w fun e w' => e = .returned (.bool (befB a b)) ∧ Below w.heap.size w w' := by
  obtain ⟨a1, a2⟩ := a
  obtain ⟨b1, b2⟩ := b
  obtain ⟨S, hS⟩ : ∃ S, befB (a1, a2) (b1, b2) = S := ⟨_, rfl⟩
  rw [hS]
  have HS : Hid ((decide (a1 < b1) || (decide (a1 = b1) && decide (a2 < b2))) = S) := Lib.hid hS
  clear hS
  have hcase : (a1 < b1) ∨ (¬ a1 < b1 ∧ a1 = b1 ∧ a2 < b2) ∨ (¬ a1 < b1 ∧ a1 = b1 ∧ ¬ a2 < b2) ∨ (¬ a1 < b1 ∧ ¬ a1 = b1) := by omega
  rcases hcase with h1 | ⟨h1, h2, h3⟩ | ⟨h1, h2, h3⟩ | ⟨h1, h2⟩
  · have Hf : Hid (S = true) := Lib.hid (by rw [← HS.out]; simp [h1])
    go_enter Try.func54, Try.ntmps54
    go_wp2
    go_ret
    exact ⟨by rw [Hf.out]; rfl, (by repeat (first | exact Below.refl _ _ | assumption | refine Below.drew ?_ | refine Below.alloc ?_ (by first | exact Nat.le_refl _ | omega | (simp; done) | (simp; omega)) _ | refine Below.setCell ?_ (by first | exact Nat.le_refl _ | omega | (simp; done) | (simp; omega)) _))⟩
  · have Hf : Hid (S = true) := Lib.hid (by rw [← HS.out]; simp [h2, h3])
    have hq : (a1 == b1) = true := by simp [h2]
    clear h2
    go_enter Try.func54, Try.ntmps54
    go_wp2
    go_ret
    exact ⟨by rw [Hf.out]; rfl, (by repeat (first | exact Below.refl _ _ | assumption | refine Below.drew ?_ | refine Below.alloc ?_ (by first | exact Nat.le_refl _ | omega | (simp; done) | (simp; omega)) _ | refine Below.setCell ?_ (by first | exact Nat.le_refl _ | omega | (simp; done) | (simp; omega)) _))⟩
  · have Hf : Hid (S = false) := Lib.hid (by rw [← HS.out]; simp [h1, h3])
    have hq : (a1 == b1) = true := by simp [h2]
    clear h2
    go_enter Try.func54, Try.ntmps54
    go_wp2
    go_ret
    exact ⟨by rw [Hf.out]; rfl, (by repeat (first | exact Below.refl _ _ | assumption | refine Below.drew ?_ | refine Below.alloc ?_ (by first | exact Nat.le_refl _ | omega | (simp; done) | (simp; omega)) _ | refine Below.setCell ?_ (by first | exact Nat.le_refl _ | omega | (simp; done) | (simp; omega)) _))⟩
  · have Hf : Hid (S = false) := Lib.hid (by rw [← HS.out]; simp [h1, h2])
    have hq : (a1 == b1) = false := by simp [h2]
    clear h2
    go_enter Try.func54, Try.ntmps54
    go_wp2
    go_ret
    exact ⟨by rw [Hf.out]; rfl, (by repeat (first | exact Below.refl _ _ | assumption | refine Below.drew ?_ | refine Below.alloc ?_ (by first | exact Nat.le_refl _ | omega | (simp; done) | (simp; omega)) _ | refine Below.setCell ?_ (by first | exact Nat.le_refl _ | omega | (simp; done) | (simp; omega)) _))⟩
set_option maxHeartbeats 4000000 in
theorem c_firstSample (a b : Pt) (y : Int) (w : World) (h1 : Crd2 a) (h2 : Crd2 b) (hy : -2000 ≤ y ∧ y ≤ 2000) :
    Calls Try.prog 37 #[ptV a, ptV b, .int .i64 y] w fun e w' => e = .returned (.int .i64 ((frst y a b : Nat) : Int)) ∧ Below w.heap.size w w' := by
  have K := Lib.hid (fun (x : Int) W (hx : -2000 ≤ x ∧ x ≤ 2000) => c_stepOf a b x y W h1 h2 hx hy)
  have HF := Lib.hid (fun (n : Nat) (hn : n ≤ 48) (h : ∀ j : Nat, j < n → stepL (4 * (j : Int) + 2) y a b = 0) (h2 : n = 48 ∨ stepL (4 * (n : Int) + 2) y a b ≠ 0) => frst_eq hn h h2)
  obtain ⟨S, hS⟩ : ∃ S, frst y a b = S := ⟨_, rfl⟩
  rw [hS] at HF ⊢
  obtain ⟨f, hf⟩ : ∃ f : Int → Int, ∀ x, stepL x y a b = f x := ⟨_, fun _ => rfl⟩
  simp only [hf] at K HF
  have E := Lib.hid (Below.refl w.heap.size w)
  clear h1 h2 hS hf hy
  obtain ⟨ax, ay⟩ := a
  obtain ⟨bx, bz⟩ := b
  go_enter Try.func37, Try.ntmps37
  go_wp2_with fail
  first | refine gen_calls ?_ | refine gen_code ?_ | refine gen_list ?_
  intro w1 hW
  obtain ⟨hb, hP, hQ⟩ := new2 hW
  clear hW
  replace E := Lib.hid (Ext.trans E.out hb)
  clear hb
  have P := Lib.hid hP
  have lP := P.out.lt
  clear hP
  have Q := Lib.hid hQ
  have lQ := Q.out.lt
  clear hQ
  go_wp2_with fail
  go_loopw [7] (fun n wr => ∃ (k : Nat), k ≤ 48 ∧ n = .int .i64 k ∧ (∀ j : Nat, j < k → f (4 * (j : Int) + 2) = 0) ∧ Row wr w.heap.size 58 [.int .i64 ax, .int .i64 ay] ∧ Row wr (w.heap.size + 1) 58 [.int .i64 bx, .int .i64 bz] ∧ Below w.heap.size w wr) (fun n _ => 48 - (intOf n).toNat)
  case atStart => exact ⟨0, Nat.zero_le _, rfl, (fun j hj => absurd hj (by omega)), P.out, Q.out, E.out⟩
  case round =>
    obtain ⟨k, hk, rfl, hz, hp, hq, hbw⟩ := hrel
    clear E P Q lP lQ
    have P := Lib.hid hp
    have Q := Lib.hid hq
    have E := Lib.hid hbw
    have Hz := Lib.hid hz
    clear hp hq hbw hz
    have lP := P.out.lt
    have lQ := Q.out.lt
    by_cases hlt : k < 48
    · have v1 : (k : Int) < 48 := by omega
      have v1d : decide ((k : Int) < 48) = true := decide_eq_true v1
      have p0 := P.out.cell_of (i := 0) rfl
      have p1 := P.out.cell_of (i := 1) rfl
      have q0 := Q.out.cell_of (i := 0) rfl
      have q1 := Q.out.cell_of (i := 1) rfl
      go_wp2_with fail
      clear p0 p1 q0 q1
      refine (K.out (4 * (k : Int) + 2) _ (by omega)).mono ?_
      rintro e w2 ⟨rfl, hb⟩
      replace E := Lib.hid (Ext.trans E.out hb)
      replace P := Lib.hid (P.out.ext hb)
      have lP := P.out.lt
      replace Q := Lib.hid (Q.out.ext hb)
      have lQ := Q.out.lt
      clear hb
      have p0 := P.out.cell_of (i := 0) rfl
      have p1 := P.out.cell_of (i := 1) rfl
      have q0 := Q.out.cell_of (i := 0) rfl
      have q1 := Q.out.cell_of (i := 1) rfl
      have Hs : Hid (f (4 * (k : Int) + 2) = 0 → ∀ j : Nat, j < k + 1 → f (4 * (j : Int) + 2) = 0) := Lib.hid (fun h j hj => by
        by_cases e : j = k
        · subst e; exact h
        · exact Hz.out j (by omega))
      have He : Hid (f (4 * (k : Int) + 2) ≠ 0 → S = k) := Lib.hid (fun h => HF.out k (by omega) Hz.out (.inr h))
      generalize f (4 * (k : Int) + 2) = v at *
      by_cases hv : v = 0
      · have hb : (v == 0) = true := by simp [hv]
        have Hn := Lib.hid (Hs.out hv)
        clear hv
        go_wp2
        go_roundw
        case rel => exact ⟨k + 1, by omega, by go_num, Hn.out, P.out, Q.out, E.out⟩
        case measure => simp [intOf]; omega
      · have hb : (v == 0) = false := by simp [hv]
        have Hn := Lib.hid (He.out hv)
        clear hv
        go_wp2
        go_ret
        exact ⟨ret_i (by rw [Hn.out]), E.out⟩
    · have hk' : k = 48 := by omega
      have Hn : Hid (S = k) := Lib.hid (HF.out k (by omega) Hz.out (.inl hk'))
      have v1 : ¬ (k : Int) < 48 := by omega
      have v1d : decide ((k : Int) < 48) = false := decide_eq_false v1
      clear hk'
      go_wp2
      go_ret
      exact ⟨ret_i (by rw [Hn.out]), E.out⟩
/-- What is listed of the row's copy. -/
structure PlJ (B : Nat) (T : TypeId) (l : List Pt) (c : Pt) (L : Array Bool) (vals : Nat → Value) (w : World) : Prop where
  a : L.getD 0 false = true → L.getD 2 false = false → Has w B T 2 (vals 0) 0 []
  b : L.getD 2 false = true → L.getD 5 false = false → Has w B T 2 (vals 2) l.length (l.flatMap ptC)
  s : L.getD 4 false = true → L.getD 5 false = false → ∃ g, vals 4 = .slice (some ⟨g, 0, none⟩) 1 1 ∧ Row w g T (ptC c) ∧ (L.getD 0 false = true → L.getD 2 false = false → (vals 0).ownBlock ≠ some g)
  d : L.getD 5 false = true → L.getD 2 false = true ∧ Has w B T 2 (vals 5) (l.length + 1) ((l ++ [c]).flatMap ptC)
  e : L.getD 6 false = true → L.getD 5 false = true ∧ vals 6 = vals 5
  z : L.size = 7
theorem PlJ.ext {B : Nat} {T : TypeId} {l : List Pt} {c : Pt} {L : Array Bool} {vals : Nat → Value} {w w' : World} (h : PlJ B T l c L vals w) (hx : Ext w w') : PlJ B T l c L vals w' :=
  ⟨fun k1 k2 => own_ext (h.a k1 k2) hx, fun k1 k2 => own_ext (h.b k1 k2) hx, fun k1 k2 => by obtain ⟨g, h1, h2, h3⟩ := h.s k1 k2; exact ⟨g, h1, h2.ext hx, h3⟩, fun k => ⟨(h.d k).1, own_ext (h.d k).2 hx⟩, h.e, h.z⟩
theorem lst_at {l : Array Bool} {i j : Nat} (h : i ≠ j) : (l.setIfInBounds i true).getD j false = l.getD j false := getD_set_ne false h
def insAt (l : List Pt) (c : Pt) (k : Nat) : List Pt := l.take k ++ c :: l.drop k
theorem insAt_len (l : List Pt) (c : Pt) (k : Nat) (h : k ≤ l.length) : (insAt l c k).length = l.length + 1 := by
  unfold insAt; rw [List.length_append, List.length_cons, List.length_take, List.length_drop]; omega
theorem insAt_end (l : List Pt) (c : Pt) : insAt l c l.length = l ++ [c] := by unfold insAt; rw [List.take_length, List.drop_length]
theorem swap_mid (x c : Pt) (r : List Pt) : ∀ a : List Pt, ((a ++ x :: c :: r).set (a.length + 1) x).set a.length c = a ++ c :: x :: r
  | [] => rfl
  | b :: a => by
    have := swap_mid x c r a
    simp
theorem insAt_swap (l : List Pt) (c : Pt) (j : Nat) (h : j < l.length) : ((insAt l c (j + 1)).set (j + 1) l[j]).set j c = insAt l c j := by
  have h1 : l.drop j = l[j] :: l.drop (j + 1) := List.drop_eq_getElem_cons h
  have h2 : l.take (j + 1) = l.take j ++ [l[j]] := List.take_succ_eq_append_getElem h
  have h3 := swap_mid l[j] c (l.drop (j + 1)) (l.take j)
  rw [show (l.take j).length = j by rw [List.length_take]; omega] at h3
  unfold insAt
  rw [h1, h2, List.append_assoc]
  exact h3
theorem insAt_c (l : List Pt) (c : Pt) (k : Nat) (h : k ≤ l.length) : (insAt l c k)[k]'(by rw [insAt_len l c k h]; omega) = c := by
  unfold insAt
  rw [List.getElem_append_right (by rw [List.length_take]; omega)]
  simp only [List.length_take, show k - min k l.length = 0 by omega, List.getElem_cons_zero]
theorem insAt_b (l : List Pt) (c : Pt) (j : Nat) (h : j < l.length) : (insAt l c (j + 1))[j]'(by rw [insAt_len l c (j + 1) (by omega)]; omega) = l[j] := by
  unfold insAt
  rw [List.getElem_append_left (by rw [List.length_take]; omega), List.getElem_take]
theorem PlJ.start {B : Nat} {T : TypeId} {l : List Pt} {c : Pt} {L : Array Bool} {vals : Nat → Value} {w : World} (h0 : L.getD 0 false = false) (h2 : L.getD 2 false = false) (h4 : L.getD 4 false = false) (h5 : L.getD 5 false = false) (h6 : L.getD 6 false = false) (h7 : L.size = 7) : PlJ B T l c L vals w :=
  ⟨fun h => (by rw [h0] at h; cases h), fun h => (by rw [h2] at h; cases h), fun h => (by rw [h4] at h; cases h), fun h => (by rw [h5] at h; cases h), fun h => (by rw [h6] at h; cases h), h7⟩
theorem lst_on {L : Array Bool} {i : Nat} (h : L.size = 7) (hi : i < 7) : (L.setIfInBounds i true).getD i false = true := by
  rw [Array.getD_eq_getD_getElem?, Array.getElem?_setIfInBounds_self_of_lt (by omega)]; rfl
set_option maxRecDepth 100000 in
set_option maxHeartbeats 8000000 in
theorem c_place (A : Option Addr) (cap : Nat) (l : List Pt) (c : Pt) (w : World) (h : Pts w A l) (hs : SrtC l) (hl : l.length ≤ 1000) :
    Calls Try.prog 36 #[.slice A l.length cap, .agg #[.int .i64 c.1, .int .i64 c.2]] w fun e w' => RetP 47 w (srtC (c :: l)) e w' := by
  have H := Lib.hid h
  have HS := Lib.hid hs
  have E := Lib.hid (Below.refl w.heap.size w)
  clear h hs
  obtain ⟨c1, c2⟩ := c
  go_enter Try.func36, Try.ntmps36
  go_wp2_with fail
  first | refine gen_calls ?_ | refine gen_code ?_ | refine gen_list ?_
  intro w1 hW
  obtain ⟨hb, hC⟩ := new1 hW
  clear hW
  replace E := Lib.hid (Ext.trans E.out hb)
  replace H := Lib.hid (H.out.ext ptR_stab hb)
  clear hb
  have C := Lib.hid hC
  have lC := C.out.lt
  clear hC
  have lC0 := C.out.lt
  have p0 := C.out.cell_of (i := 0) rfl
  have p1 := C.out.cell_of (i := 1) rfl
  go_wp2_with fail
  refine wp_region_invJ [1, 3] [(0, some 8), (2, some 10), (4, some 12), (5, some 13), (6, some 5)] (by kernel_rfl) (by kernel_rfl) (PlJ w1.heap.size 47 l (c1, c2)) (fun _ _ _ _ h hx => h.ext hx) (fun vals w' => PlJ.start (by kernel_rfl) (by kernel_rfl) (by kernel_rfl) (by kernel_rfl) (by kernel_rfl) (by kernel_rfl)) ?_
  iterate 2 ((refine calm_yes rfl rfl (fun w' hC => (by have p0 := hC.cell p0; have p1 := hC.cell p1; go_simp; rfl)) (fun K hK => ?_); go_simp; refine hK _ ?_; clear hK K))
  refine calm_nil ?_
  clear p0 p1
  refine ⟨List.forall_mem_cons.2 ⟨?_, List.forall_mem_cons.2 ⟨?_, List.forall_mem_cons.2 ⟨?_, List.forall_mem_cons.2 ⟨?_, List.forall_mem_cons.2 ⟨?_, by simp⟩⟩⟩⟩⟩, ?_⟩
  · refine step_op rfl (fun vals => rfl) (fun listed vals w' hC hl hn hJ K hK => ?_)
    have hz : w1.heap.size ≤ w'.heap.size := hC.size
    simp only [canon, List.foldl_cons, List.foldl_nil]
    go_simp
    refine hK _ (.slice (some ⟨w'.heap.size, 0, none⟩) 0 0) _ rfl (Below.alloc hC hC.size _) ?_
    have hJ' := hJ.ext (ext_alloc w' (.cells #[] 47))
    refine ⟨fun k1 k2 => ?_, fun k1 k2 => ?_, fun k1 k2 => ?_, fun k => ?_, fun k => ?_, by rw [Array.size_setIfInBounds]; exact hJ.z⟩
    · rw [upd_same]; exact own_of_row (n := 0) (cs := []) (Row.new w' 47 []) hz rfl (by decide)
    · rw [lst_at (by decide)] at k1 k2; rw [upd_ne (by decide)]; exact hJ'.b k1 k2
    · rw [lst_at (by decide)] at k1 k2; rw [upd_ne (by decide)]
      obtain ⟨g, g1, g2, g3⟩ := hJ.s k1 k2
      have := g2.lt
      exact ⟨g, g1, g2.ext (ext_alloc _ _), fun _ _ => by rw [upd_same]; simp [Value.ownBlock]; omega⟩
    · rw [lst_at (by decide)] at k; rw [lst_at (by decide), upd_ne (by decide)]; exact hJ'.d k
    · rw [lst_at (by decide)] at k; rw [lst_at (by decide), upd_ne (by decide), upd_ne (by decide)]; exact hJ'.e k
  · refine step_op rfl (fun vals => rfl) (fun listed vals w' hC hl hn hJ K hK => ?_)
    have hz : w1.heap.size ≤ w'.heap.size := hC.size
    have hu := hn 0 (by kernel_rfl)
    have own := hJ.a hu hl
    have src : Src w' A l.length 2 (l.flatMap ptC) := (H.out.ext ptR_stab (ext_cls hC)).src ptC_len (fun x us h => h) ptC_one (by decide)
    simp only [canon, List.foldl_cons, List.foldl_nil]
    refine wp_app (base := w1.heap.size) ei_cross (.tmp 8) (.tmp 9) rfl rfl own rfl src (by omega) hz ?_
    intro v2 w2 hown hg hat
    rw [List.nil_append, Nat.zero_add] at hown
    have hl5 : listed.getD 5 false = true → False := fun k => by
      have := (hJ.d k).1
      rw [hl] at this; cases this
    refine hK _ v2 _ rfl (own_below hC own hg hC.size) ?_
    refine ⟨fun k1 k2 => ?_, fun k1 k2 => ?_, fun k1 k2 => ?_, fun k => ?_, fun k => ?_, by rw [Array.size_setIfInBounds]; exact hJ.z⟩
    · rw [lst_on hJ.z (by decide)] at k2; cases k2
    · rw [upd_same]; exact hown
    · rw [lst_at (by decide)] at k1 k2; rw [upd_ne (by decide)]
      obtain ⟨g, g1, g2, g3⟩ := hJ.s k1 k2
      have hne := g3 hu hl
      exact ⟨g, g1, (hg.block g g2.lt (fun e => hne e.symm)).trans g2, fun _ k => by rw [lst_on hJ.z (by decide)] at k; cases k⟩
    · rw [lst_at (by decide)] at k; exact (hl5 k).elim
    · rw [lst_at (by decide)] at k; exact (hl5 (hJ.e k).1).elim
  · refine step_op rfl (fun vals => rfl) (fun listed vals w' hC hl hn hJ K hK => ?_)
    have hz : w1.heap.size ≤ w'.heap.size := hC.size
    have hJ' := hJ.ext (ext_alloc w' (.cells #[.int .i64 c1, .int .i64 c2] 47))
    simp only [canon, List.foldl_cons, List.foldl_nil]
    go_simp
    refine hK _ (.slice (some ⟨w'.heap.size, 0, none⟩) 1 1) _ rfl (Below.alloc hC hC.size _) ?_
    refine ⟨fun k1 k2 => ?_, fun k1 k2 => ?_, fun k1 k2 => ?_, fun k => ?_, fun k => ?_, by rw [Array.size_setIfInBounds]; exact hJ.z⟩
    · rw [lst_at (by decide)] at k1 k2; rw [upd_ne (by decide)]; exact hJ'.a k1 k2
    · rw [lst_at (by decide)] at k1 k2; rw [upd_ne (by decide)]; exact hJ'.b k1 k2
    · refine ⟨w'.heap.size, by rw [upd_same], Row.new w' 47 (ptC (c1, c2)), fun k1 k2 e => ?_⟩
      rw [lst_at (by decide)] at k1 k2; rw [upd_ne (by decide)] at e
      have := ((hJ.a k1 k2).lt _ e).2
      omega
    · rw [lst_at (by decide)] at k; rw [lst_at (by decide), upd_ne (by decide)]; exact hJ'.d k
    · rw [lst_at (by decide)] at k; rw [lst_at (by decide), upd_ne (by decide), upd_ne (by decide)]; exact hJ'.e k
  · refine step_op rfl (fun vals => rfl) (fun listed vals w' hC hl hn hJ K hK => ?_)
    have hz : w1.heap.size ≤ w'.heap.size := hC.size
    have hu := hn 2 (by kernel_rfl)
    have hv := hn 4 (by kernel_rfl)
    have own := hJ.b hu hl
    obtain ⟨g, g1, g2, g3⟩ := hJ.s hv hl
    have src : Src w' (some ⟨g, 0, none⟩) 1 2 (ptC (c1, c2)) := (Row.in_ (xs := [(c1, c2)]) (rest := []) (enc := ptC) ptC_len (by simpa [ptC] using g2) (fun _ _ => rfl) : Pts w' _ [(c1, c2)]).src ptC_len (fun x us h => h) ptC_one (by decide)
    simp only [canon, List.foldl_cons, List.foldl_nil]
    refine wp_app (base := w1.heap.size) ei_cross (.tmp 10) (.tmp 12) rfl rfl own (by rw [← g1]; rfl) src (by omega) hz ?_
    intro v2 w2 hown hg hat
    refine hK _ v2 _ rfl (own_below hC own hg hC.size) ?_
    refine ⟨fun k1 k2 => ?_, fun k1 k2 => ?_, fun k1 k2 => ?_, fun k => ?_, fun k => ?_, by rw [Array.size_setIfInBounds]; exact hJ.z⟩
    · rw [lst_at (by decide)] at k1 k2
      rw [hu] at k2; cases k2
    · rw [lst_on hJ.z (by decide)] at k2; cases k2
    · rw [lst_on hJ.z (by decide)] at k2; cases k2
    · rw [upd_same, List.flatMap_append, lst_at (by decide)]; exact ⟨hu, hown⟩
    · rw [lst_at (by decide)] at k
      have := (hJ.e k).1
      rw [hl] at this; cases this
  · refine step_op rfl (fun vals => rfl) (fun listed vals w' hC hl hn hJ K hK => ?_)
    have hu := hn 5 (by kernel_rfl)
    simp only [canon, List.foldl_cons, List.foldl_nil]
    go_simp
    refine hK _ (vals 5) _ rfl hC ?_
    refine ⟨fun k1 k2 => ?_, fun k1 k2 => ?_, fun k1 k2 => ?_, fun k => ?_, fun k => ?_, by rw [Array.size_setIfInBounds]; exact hJ.z⟩
    · rw [lst_at (by decide)] at k1 k2; rw [upd_ne (by decide)]; exact hJ.a k1 k2
    · rw [lst_at (by decide)] at k1 k2; rw [upd_ne (by decide)]; exact hJ.b k1 k2
    · rw [lst_at (by decide)] at k1 k2; rw [upd_ne (by decide)]
      obtain ⟨g, g1, g2, g3⟩ := hJ.s k1 k2
      exact ⟨g, g1, g2, fun a b => by rw [lst_at (by decide)] at a b; rw [upd_ne (by decide)]; exact g3 a b⟩
    · rw [lst_at (by decide)] at k; rw [lst_at (by decide), upd_ne (by decide)]; exact hJ.d k
    · exact ⟨by rw [lst_at (by decide)]; exact hu, by rw [upd_same, upd_ne (by decide)]⟩
  · intro listed vals w2 hx hall hJ K hK
    have hown := (hJ.d (hall 5 (by decide))).2
    obtain ⟨A2, cap2, hv⟩ := own_form hown
    have h6 : vals 6 = .slice A2 (l.length + 1) cap2 := (hJ.e (hall 6 (by decide))).2.trans hv
    rw [hv] at hown
    simp only [canon, List.foldl_cons, List.foldl_nil]
    rw [h6]
    go_simp
    refine hK _ ?_
    have O : Hid (Has w2 w.heap.size 47 2 (.slice A2 (l.length + 1) cap2) (l.length + 1) ((insAt l (c1, c2) l.length).flatMap ptC)) := Lib.hid (by rw [insAt_end]; exact hown.rebase (by have := E.out.size; omega))
    replace E := Lib.hid (Ext.trans E.out hx)
    clear hown hx hall hJ hK h6 hv H C lC0 lC
    generalize vals 0 = u0
    generalize vals 2 = u2
    generalize vals 4 = u4
    generalize vals 5 = u5
    clear vals
    have hnI : (l.length : Int) + 1 - 1 = (l.length : Int) := by omega
    go_wp2_with fail
    go_loopw [6, 7] (fun k _ wr => ∃ (kk : Nat), kk ≤ l.length ∧ k = .int .i64 kk ∧ (∀ x ∈ l.drop kk, befB (c1, c2) x = true) ∧ Has wr w.heap.size 47 2 (.slice A2 (l.length + 1) cap2) (l.length + 1) ((insAt l (c1, c2) kk).flatMap ptC) ∧ Below w.heap.size w wr) (fun k _ _ => (intOf k).toNat)
    case atStart => exact ⟨l.length, Nat.le_refl _, by go_num, (fun x hx => by rw [List.drop_length] at hx; cases hx), O.out, E.out⟩
    case round =>
      obtain ⟨k, hk, rfl, hall, ho, hbw⟩ := hrel
      clear O E
      have O := Lib.hid ho
      have E := Lib.hid hbw
      have Ha := Lib.hid hall
      clear ho hbw hall
      have Hfin : Hid ((k = 0 ∨ ∃ hk : k - 1 < l.length, befB (c1, c2) l[k - 1] = false) → insAt l (c1, c2) k = srtC ((c1, c2) :: l)) := Lib.hid (fun hh => srtC_eq (place_srt HS.out Ha.out hh) (place_perm l (c1, c2) k))
      have hil := insAt_len l (c1, c2) k hk
      by_cases h0 : k = 0
      · have Hf := Lib.hid (Hfin.out (.inl h0))
        have v1 : ¬ (0 : Int) < (k : Int) := by omega
        have v1d : decide ((0 : Int) < (k : Int)) = false := decide_eq_false v1
        have v2d : decide (0 < k) = false := decide_eq_false (by omega)
        clear h0
        go_wp2_with fail
        refine wp_region_calm [0,1,2,3,4,5,6,7,8,9,10,11,12,13] [] (by kernel_rfl) (by kernel_rfl) ?_
        (first | (refine calm_yes rfl rfl (fun w' hC => (by go_simp; rfl)) (fun K hK => ?_); go_simp; refine hK _ ?_; clear hK K) | (refine calm_no rfl rfl (fun K hK => ?_); go_simp; refine hK _ ?_; clear hK K))
        (first | (refine calm_yes rfl rfl (fun w' hC => (by go_simp; rfl)) (fun K hK => ?_); go_simp; refine hK _ ?_; clear hK K) | (refine calm_no rfl rfl (fun K hK => ?_); go_simp; refine hK _ ?_; clear hK K))
        (first | (refine calm_yes rfl rfl (fun w' hC => (by go_simp; rfl)) (fun K hK => ?_); go_simp; refine hK _ ?_; clear hK K) | (refine calm_no rfl rfl (fun K hK => ?_); go_simp; refine hK _ ?_; clear hK K))
        (first | (refine calm_yes rfl rfl (fun w' hC => (by go_simp; rfl)) (fun K hK => ?_); go_simp; refine hK _ ?_; clear hK K) | (refine calm_no rfl rfl (fun K hK => ?_); go_simp; refine hK _ ?_; clear hK K))
        (first | (refine calm_yes rfl rfl (fun w' hC => (by go_simp; rfl)) (fun K hK => ?_); go_simp; refine hK _ ?_; clear hK K) | (refine calm_no rfl rfl (fun K hK => ?_); go_simp; refine hK _ ?_; clear hK K))
        (first | (refine calm_yes rfl rfl (fun w' hC => (by go_simp; rfl)) (fun K hK => ?_); go_simp; refine hK _ ?_; clear hK K) | (refine calm_no rfl rfl (fun K hK => ?_); go_simp; refine hK _ ?_; clear hK K))
        (first | (refine calm_yes rfl rfl (fun w' hC => (by go_simp; rfl)) (fun K hK => ?_); go_simp; refine hK _ ?_; clear hK K) | (refine calm_no rfl rfl (fun K hK => ?_); go_simp; refine hK _ ?_; clear hK K))
        (first | (refine calm_yes rfl rfl (fun w' hC => (by go_simp; rfl)) (fun K hK => ?_); go_simp; refine hK _ ?_; clear hK K) | (refine calm_no rfl rfl (fun K hK => ?_); go_simp; refine hK _ ?_; clear hK K))
        (first | (refine calm_yes rfl rfl (fun w' hC => (by go_simp; rfl)) (fun K hK => ?_); go_simp; refine hK _ ?_; clear hK K) | (refine calm_no rfl rfl (fun K hK => ?_); go_simp; refine hK _ ?_; clear hK K))
        (first | (refine calm_yes rfl rfl (fun w' hC => (by go_simp; rfl)) (fun K hK => ?_); go_simp; refine hK _ ?_; clear hK K) | (refine calm_no rfl rfl (fun K hK => ?_); go_simp; refine hK _ ?_; clear hK K))
        (first | (refine calm_yes rfl rfl (fun w' hC => (by go_simp; rfl)) (fun K hK => ?_); go_simp; refine hK _ ?_; clear hK K) | (refine calm_no rfl rfl (fun K hK => ?_); go_simp; refine hK _ ?_; clear hK K))
        (first | (refine calm_yes rfl rfl (fun w' hC => (by go_simp; rfl)) (fun K hK => ?_); go_simp; refine hK _ ?_; clear hK K) | (refine calm_no rfl rfl (fun K hK => ?_); go_simp; refine hK _ ?_; clear hK K))
        (first | (apply calm_call rfl rfl rfl Try.func54 (by kernel_rfl) rfl (by go_simp; rfl); exact (fun w' hC => c_before (0, 0) (0, 0) w'); intro K hK; go_simp; refine hK _ ?_; clear hK K) | (refine calm_no rfl rfl (fun K hK => ?_); go_simp; refine hK _ ?_; clear hK K))
        (first | (refine calm_yes rfl rfl (fun w' hC => (by go_simp; rfl)) (fun K hK => ?_); go_simp; refine hK _ ?_; clear hK K) | (refine calm_no rfl rfl (fun K hK => ?_); go_simp; refine hK _ ?_; clear hK K))
        refine calm_done (fun w5 hb => ?_)
        replace E := Lib.hid (Ext.trans E.out hb)
        replace O := Lib.hid (own_ext O.out hb)
        clear hb
        go_wp2
        go_ret
        rw [← Hf.out]
        exact ⟨A2, cap2, by rw [hil]; rfl, by rw [hil]; exact O.out, E.out⟩
      · obtain ⟨j, rfl⟩ : ∃ j, k = j + 1 := ⟨k - 1, by omega⟩
        have hjl : j < l.length := by omega
        obtain ⟨g, rfl, hg0, hg⟩ := own_at O.out (by omega)
        have fl : ((insAt l (c1, c2) (j + 1)).flatMap ptC).length = (l.length + 1) * 2 := by rw [flat_len ptC_len, hil]
        have fx := flat_get ptC_len (insAt l (c1, c2) (j + 1)) [] (j + 1) (by omega) 0 (by omega)
        have fy := flat_get ptC_len (insAt l (c1, c2) (j + 1)) [] (j + 1) (by omega) 1 (by omega)
        have gx := flat_get ptC_len (insAt l (c1, c2) (j + 1)) [] j (by omega) 0 (by omega)
        have gy := flat_get ptC_len (insAt l (c1, c2) (j + 1)) [] j (by omega) 1 (by omega)
        rw [List.append_nil] at fx fy gx gy
        simp only [insAt_c l (c1, c2) (j + 1) hk, insAt_b l (c1, c2) j hjl] at fx fy gx gy
        have hs1 := flat_set ptC_len (insAt l (c1, c2) (j + 1)) (show j + 1 < (insAt l (c1, c2) (j + 1)).length by omega) l[j]
        have hs2 := flat_set ptC_len ((insAt l (c1, c2) (j + 1)).set (j + 1) l[j]) (show j < ((insAt l (c1, c2) (j + 1)).set (j + 1) l[j]).length by rw [List.length_set]; omega) (c1, c2)
        rw [insAt_swap l (c1, c2) j hjl] at hs2
        have Hc : Hid (∀ W, Has W w.heap.size 47 2 (.slice (some ⟨g, 0, none⟩) (l.length + 1) cap2) (l.length + 1) ((insAt l (c1, c2) (j + 1)).flatMap ptC) →
          (W.cell? ⟨g, (j + 1) * 2, none⟩ = some (.int .i64 c1) ∧ W.cell? ⟨g, (j + 1) * 2 + 1, none⟩ = some (.int .i64 c2) ∧ W.cell? ⟨g, j * 2, none⟩ = some (.int .i64 l[j].1) ∧ W.cell? ⟨g, j * 2 + 1, none⟩ = some (.int .i64 l[j].2)) ∧
          Has ((((W.setCell ⟨g, (j + 1) * 2, none⟩ (.int .i64 l[j].1)).setCell ⟨g, (j + 1) * 2 + 1, none⟩ (.int .i64 l[j].2)).setCell ⟨g, j * 2, none⟩ (.int .i64 c1)).setCell ⟨g, j * 2 + 1, none⟩ (.int .i64 c2)) w.heap.size 47 2 (.slice (some ⟨g, 0, none⟩) (l.length + 1) cap2) (l.length + 1) ((insAt l (c1, c2) j).flatMap ptC)) := Lib.hid (fun W hW => by
          refine ⟨⟨(hW.cellAt _ (by omega)).trans fx, (hW.cellAt _ (by omega)).trans fy, (hW.cellAt _ (by omega)).trans gx, (hW.cellAt _ (by omega)).trans gy⟩, ?_⟩
          have st := ((((hW.stored ((j + 1) * 2) (.int .i64 l[j].1)).1.stored ((j + 1) * 2 + 1) (.int .i64 l[j].2)).1.stored (j * 2) (.int .i64 c1)).1.stored (j * 2 + 1) (.int .i64 c2)).1
          rw [hs1, hs2] at st
          exact st)
        clear fl fx fy gx gy hs1 hs2
        have Hx : Hid (befB (c1, c2) l[j] = true → ∀ x ∈ l.drop j, befB (c1, c2) x = true) := Lib.hid (fun hb x hx => by
          rw [List.drop_eq_getElem_cons hjl] at hx
          rcases List.mem_cons.1 hx with rfl | hx
          · exact hb
          · exact Ha.out x hx)
        replace Hfin : Hid (befB (c1, c2) l[j] = false → insAt l (c1, c2) (j + 1) = srtC ((c1, c2) :: l)) := Lib.hid (fun hb => Hfin.out (.inr ⟨hjl, hb⟩))
        generalize l[j] = x at *
        obtain ⟨x1, x2⟩ := x
        have KB := Lib.hid (fun W => c_before (c1, c2) (x1, x2) W)
        obtain ⟨d, hd⟩ : ∃ d, befB (c1, c2) (x1, x2) = d := ⟨_, rfl⟩
        rw [hd] at KB Hx Hfin
        clear hd
        generalize hkj : j + 1 = k at Hc Hfin hk hil O ⊢
        have vk1 : (0 : Int) < (k : Int) := by omega
        have vk1d : decide ((0 : Int) < (k : Int)) = true := decide_eq_true vk1
        have vk2 : 0 < k := by omega
        have vk2d : decide (0 < k) = true := decide_eq_true vk2
        have vw : IntKind.i64.wrap ((k : Int) - 1) = (j : Int) := by rw [IntWalk.i64_in _ (by omega)]; omega
        have vb1 : (k : Int) < (l.length : Int) + 1 := by omega
        have vb2 : (j : Int) < (l.length : Int) + 1 := by omega
        obtain ⟨⟨c0, c1', d0, d1⟩, _⟩ := Hc.out _ O.out
        have C0 := Lib.hid c0
        have C1 := Lib.hid c1'
        have D0 := Lib.hid d0
        have D1 := Lib.hid d1
        have VW := Lib.hid vw
        have HK := Lib.hid hkj
        clear c0 c1' d0 d1 hkj
        have cC0 := C0.out
        have cC1 := C1.out
        have cD0 := D0.out
        have cD1 := D1.out
        go_wp2_with fail
        refine wp_region_calm [0,1,2,3,4,5,6,7,8,9,10,11,12,13] [] (by kernel_rfl) (by kernel_rfl) ?_
        (first | (refine calm_yes rfl rfl (fun w' hC => (by have cC0 := hC.cell cC0; have cC1 := hC.cell cC1; have cD0 := hC.cell cD0; have cD1 := hC.cell cD1; go_simp; rfl)) (fun K hK => ?_); go_simp; refine hK _ ?_; clear hK K) | (refine calm_no rfl rfl (fun K hK => ?_); go_simp; refine hK _ ?_; clear hK K))
        (first | (refine calm_yes rfl rfl (fun w' hC => (by have cC0 := hC.cell cC0; have cC1 := hC.cell cC1; have cD0 := hC.cell cD0; have cD1 := hC.cell cD1; go_simp; rfl)) (fun K hK => ?_); go_simp; refine hK _ ?_; clear hK K) | (refine calm_no rfl rfl (fun K hK => ?_); go_simp; refine hK _ ?_; clear hK K))
        (first | (refine calm_yes rfl rfl (fun w' hC => (by have cC0 := hC.cell cC0; have cC1 := hC.cell cC1; have cD0 := hC.cell cD0; have cD1 := hC.cell cD1; go_simp; rfl)) (fun K hK => ?_); go_simp; refine hK _ ?_; clear hK K) | (refine calm_no rfl rfl (fun K hK => ?_); go_simp; refine hK _ ?_; clear hK K))
        (first | (refine calm_yes rfl rfl (fun w' hC => (by have cC0 := hC.cell cC0; have cC1 := hC.cell cC1; have cD0 := hC.cell cD0; have cD1 := hC.cell cD1; go_simp; rfl)) (fun K hK => ?_); go_simp; refine hK _ ?_; clear hK K) | (refine calm_no rfl rfl (fun K hK => ?_); go_simp; refine hK _ ?_; clear hK K))
        (first | (refine calm_yes rfl rfl (fun w' hC => (by have cC0 := hC.cell cC0; have cC1 := hC.cell cC1; have cD0 := hC.cell cD0; have cD1 := hC.cell cD1; go_simp; rfl)) (fun K hK => ?_); go_simp; refine hK _ ?_; clear hK K) | (refine calm_no rfl rfl (fun K hK => ?_); go_simp; refine hK _ ?_; clear hK K))
        (first | (refine calm_yes rfl rfl (fun w' hC => (by have cC0 := hC.cell cC0; have cC1 := hC.cell cC1; have cD0 := hC.cell cD0; have cD1 := hC.cell cD1; go_simp; rfl)) (fun K hK => ?_); go_simp; refine hK _ ?_; clear hK K) | (refine calm_no rfl rfl (fun K hK => ?_); go_simp; refine hK _ ?_; clear hK K))
        (first | (refine calm_yes rfl rfl (fun w' hC => (by have cC0 := hC.cell cC0; have cC1 := hC.cell cC1; have cD0 := hC.cell cD0; have cD1 := hC.cell cD1; go_simp; rfl)) (fun K hK => ?_); go_simp; refine hK _ ?_; clear hK K) | (refine calm_no rfl rfl (fun K hK => ?_); go_simp; refine hK _ ?_; clear hK K))
        (first | (refine calm_yes rfl rfl (fun w' hC => (by have cC0 := hC.cell cC0; have cC1 := hC.cell cC1; have cD0 := hC.cell cD0; have cD1 := hC.cell cD1; go_simp; rfl)) (fun K hK => ?_); go_simp; refine hK _ ?_; clear hK K) | (refine calm_no rfl rfl (fun K hK => ?_); go_simp; refine hK _ ?_; clear hK K))
        (first | (refine calm_yes rfl rfl (fun w' hC => (by have cC0 := hC.cell cC0; have cC1 := hC.cell cC1; have cD0 := hC.cell cD0; have cD1 := hC.cell cD1; go_simp; rfl)) (fun K hK => ?_); go_simp; refine hK _ ?_; clear hK K) | (refine calm_no rfl rfl (fun K hK => ?_); go_simp; refine hK _ ?_; clear hK K))
        (first | (refine calm_yes rfl rfl (fun w' hC => (by have cC0 := hC.cell cC0; have cC1 := hC.cell cC1; have cD0 := hC.cell cD0; have cD1 := hC.cell cD1; go_simp; rfl)) (fun K hK => ?_); go_simp; refine hK _ ?_; clear hK K) | (refine calm_no rfl rfl (fun K hK => ?_); go_simp; refine hK _ ?_; clear hK K))
        (first | (refine calm_yes rfl rfl (fun w' hC => (by have cC0 := hC.cell cC0; have cC1 := hC.cell cC1; have cD0 := hC.cell cD0; have cD1 := hC.cell cD1; go_simp; rfl)) (fun K hK => ?_); go_simp; refine hK _ ?_; clear hK K) | (refine calm_no rfl rfl (fun K hK => ?_); go_simp; refine hK _ ?_; clear hK K))
        (first | (refine calm_yes rfl rfl (fun w' hC => (by have cC0 := hC.cell cC0; have cC1 := hC.cell cC1; have cD0 := hC.cell cD0; have cD1 := hC.cell cD1; go_simp; rfl)) (fun K hK => ?_); go_simp; refine hK _ ?_; clear hK K) | (refine calm_no rfl rfl (fun K hK => ?_); go_simp; refine hK _ ?_; clear hK K))
        (first | (apply calm_call rfl rfl rfl Try.func54 (by kernel_rfl) rfl (by go_simp; rfl); exact (fun w' hC => KB.out w'); intro K hK; go_simp; refine hK _ ?_; clear hK K) | (refine calm_no rfl rfl (fun K hK => ?_); go_simp; refine hK _ ?_; clear hK K))
        (first | (refine calm_yes rfl rfl (fun w' hC => (by have cC0 := hC.cell cC0; have cC1 := hC.cell cC1; have cD0 := hC.cell cD0; have cD1 := hC.cell cD1; go_simp; rfl)) (fun K hK => ?_); go_simp; refine hK _ ?_; clear hK K) | (refine calm_no rfl rfl (fun K hK => ?_); go_simp; refine hK _ ?_; clear hK K))
        refine calm_done (fun w5 hb => ?_)
        clear cC0 cC1 cD0 cD1
        replace E := Lib.hid (Ext.trans E.out hb)
        replace O := Lib.hid (own_ext O.out hb)
        replace C0 := Lib.hid (Cls.cell hb C0.out)
        replace C1 := Lib.hid (Cls.cell hb C1.out)
        replace D0 := Lib.hid (Cls.cell hb D0.out)
        replace D1 := Lib.hid (Cls.cell hb D1.out)
        clear hb
        have cC0 := C0.out
        have cC1 := C1.out
        have cD0 := D0.out
        have cD1 := D1.out
        clear cC0 cC1 cD0 cD1
        cases d
        · have Hf := Lib.hid (Hfin.out rfl)
          go_wp2
          go_ret
          rw [← Hf.out]
          exact ⟨some ⟨g, 0, none⟩, cap2, by rw [hil]; rfl, by rw [hil]; exact O.out, E.out⟩
        · have Hn := Lib.hid (Hx.out rfl)
          clear Hfin Hx KB
          have hgl : g < w5.heap.size := (O.out.lt g rfl).2
          have hgn : ¬ w5.heap.size = g := by omega
          have hgn' : ¬ g = w5.heap.size := by omega
          obtain ⟨⟨c0, c1', d0, d1⟩, _⟩ := Hc.out _ O.out
          have f0 := O.out.frozenAt (k * 2)
          have f1 := O.out.frozenAt (k * 2 + 1)
          have f2 := O.out.frozenAt (j * 2)
          have f3 := O.out.frozenAt (j * 2 + 1)
          have St := Lib.hid (own_ext (Hc.out _ O.out).2 (ext_alloc _ (.cells #[.int .i64 c1, .int .i64 c2] 47)))
          have Hb := Lib.hid (Ext.trans ((((E.out.setCell (p := ⟨g, k * 2, none⟩) hg0 (.int .i64 x1)).setCell (p := ⟨g, k * 2 + 1, none⟩) hg0 (.int .i64 x2)).setCell (p := ⟨g, j * 2, none⟩) hg0 (.int .i64 c1)).setCell (p := ⟨g, j * 2 + 1, none⟩) hg0 (.int .i64 c2)) (ext_alloc _ (.cells #[.int .i64 c1, .int .i64 c2] 47)))
          have hjk : j < k := by have := HK.out; omega
          have hjl2 : j ≤ l.length := by omega
          clear O E
          go_wp2
          go_roundw
          case rel => exact ⟨j, hjl2, by go_num, Hn.out, St.out, Hb.out⟩
          case measure => simp [intOf]; omega
end Go.Proofs.Yteknlifgejpjfaa
