/-
  Rounds: the walk of the program.
-/
import Derived.Test.YtalicpgnjpgloaaRoundS
import Derived.Test.YtalicpgnjpgloaaRegionJ
namespace Go.Proofs.Ytalicpgnjpgloaa
open Go Go.RowKit Reg
attribute [local go_sem] calmAt calmUpon
/-- Four memories of points, made and filled in any order. -/
structure FourJ (B : Nat) (ts : Nat → Pt) (TP : TypeId) (listed : Array Bool) (vals : Nat → Value) (w : World) : Prop where
  dn : ∀ i, i < 4 → listed.getD (16 + i) false = true → listed.getD (12 + i) false = true
  at_ : ∀ i, i < 4 → listed.getD (12 + i) false = true → ∃ g cs, vals (12 + i) = .pointer (some ⟨g, 0, none⟩) ∧ B ≤ g ∧ Row w g TP cs ∧ cs.length = 2 ∧ (listed.getD (16 + i) false = true → cs = ptC (ts i))
  nd : ∀ i j, i < 4 → j < 4 → i ≠ j → listed.getD (12 + i) false = true → listed.getD (12 + j) false = true → vals (12 + i) ≠ vals (12 + j)
theorem FourJ.ext {B : Nat} {ts : Nat → Pt} {TP : TypeId} {listed : Array Bool} {vals : Nat → Value} {w w' : World} (h : FourJ B ts TP listed vals w) (hx : Ext w w') : FourJ B ts TP listed vals w' :=
  ⟨h.dn, fun i hi hl => by obtain ⟨g, cs, h1, h2, h3, h4⟩ := h.at_ i hi hl; exact ⟨g, cs, h1, h2, h3.ext hx, h4⟩, h.nd⟩
theorem FourJ.alloc {B : Nat} {ts : Nat → Pt} {TP : TypeId} {listed : Array Bool} {vals : Nat → Value} {w : World} (h : FourJ B ts TP listed vals w) (hB : B ≤ w.heap.size) {i : Nat} (hi : i < 4) (hu : listed.getD (12 + i) false = false) {cs : List Value} (hl : cs.length = 2) :
    FourJ B ts TP (listed.setIfInBounds (12 + i) true) (upd vals (12 + i) (.pointer (some ⟨w.heap.size, 0, none⟩))) (w.alloc (.cells cs.toArray TP)) := by
  have n1 : ∀ j, (listed.setIfInBounds (12 + i) true).getD (16 + j) false = listed.getD (16 + j) false := fun j => getD_set_ne false (by omega)
  have n2 : ∀ j, j ≠ i → (listed.setIfInBounds (12 + i) true).getD (12 + j) false = listed.getD (12 + j) false := fun j hj => getD_set_ne false (by omega)
  have n3 : ∀ j, j ≠ i → upd vals (12 + i) (.pointer (some ⟨w.heap.size, 0, none⟩)) (12 + j) = vals (12 + j) := fun j hj => upd_ne (by omega)
  refine ⟨fun j hj hl2 => getD_set_true (h.dn j hj (by rw [← n1]; exact hl2)), fun j hj hl2 => ?_, fun j k hj hk hjk h1 h2 => ?_⟩
  · by_cases he : j = i
    · subst he
      refine ⟨w.heap.size, cs, upd_same _ _ _, hB, Row.new w TP cs, hl, fun h3 => ?_⟩
      rw [n1] at h3
      rw [h.dn j hj h3] at hu; cases hu
    · rw [n2 j he] at hl2
      rw [n1, n3 j he]
      obtain ⟨g, cs2, h1, h2, h3, h4⟩ := h.at_ j hj hl2
      exact ⟨g, cs2, h1, h2, h3.alloc _, h4⟩
  · have key : ∀ m, m < 4 → m ≠ i → listed.getD (12 + m) false = true → vals (12 + m) ≠ .pointer (some ⟨w.heap.size, 0, none⟩) := fun m hm _ hlm he => by
      obtain ⟨g, cs2, h1, h2, h3, h4⟩ := h.at_ m hm hlm
      rw [h1] at he
      have := h3.lt
      simp at he
    by_cases he : j = i
    · subst he
      have hkj := Ne.symm hjk
      rw [n2 k hkj] at h2
      rw [upd_same, n3 k hkj]
      exact (key k hk hkj h2).symm
    · rw [n2 j he] at h1
      by_cases he2 : k = i
      · subst he2
        rw [upd_same, n3 j he]
        exact key j hj he h1
      · rw [n2 k he2] at h2
        rw [n3 j he, n3 k he2]
        exact h.nd j k hj hk hjk h1 h2
theorem FourJ.store {B : Nat} {ts : Nat → Pt} {TP : TypeId} {listed : Array Bool} {vals : Nat → Value} {w w' : World} (h : FourJ B ts TP listed vals w) {i : Nat} (hi : i < 4) (hu : listed.getD (12 + i) false = true) {g : Nat} (hg : vals (12 + i) = .pointer (some ⟨g, 0, none⟩)) (v : Value)
    (hr : Row w' g TP (ptC (ts i))) (hf : ∀ g' cs, g' ≠ g → Row w g' TP cs → Row w' g' TP cs) :
    FourJ B ts TP (listed.setIfInBounds (16 + i) true) (upd vals (16 + i) v) w' := by
  have n1 : ∀ j, j < 4 → (listed.setIfInBounds (16 + i) true).getD (12 + j) false = listed.getD (12 + j) false := fun j hj => getD_set_ne false (by omega)
  have n2 : ∀ j, j ≠ i → (listed.setIfInBounds (16 + i) true).getD (16 + j) false = listed.getD (16 + j) false := fun j hj => getD_set_ne false (by omega)
  have n3 : ∀ j, j < 4 → upd vals (16 + i) v (12 + j) = vals (12 + j) := fun j hj => upd_ne (by omega)
  refine ⟨fun j hj hl2 => ?_, fun j hj hl2 => ?_, fun j k hj hk hjk h1 h2 => ?_⟩
  · rw [n1 j hj]
    by_cases he : j = i
    · subst he; exact hu
    · exact h.dn j hj (by rw [← n2 j he]; exact hl2)
  · rw [n1 j hj] at hl2
    rw [n3 j hj]
    obtain ⟨g', cs2, h1, h2, h3, h4, h5⟩ := h.at_ j hj hl2
    by_cases he : j = i
    · subst he
      rw [hg] at h1
      obtain rfl : g = g' := by simpa using h1
      exact ⟨g, _, hg, h2, hr, rfl, fun _ => rfl⟩
    · rw [n2 j he]
      have hne : g' ≠ g := fun e => h.nd j i hj hi he hl2 hu (by rw [h1, hg, e])
      exact ⟨g', cs2, h1, h2, hf g' cs2 hne h3, h4, h5⟩
  · rw [n1 j hj] at h1
    rw [n1 k hk] at h2
    rw [n3 j hj, n3 k hk]
    exact h.nd j k hj hk hjk h1 h2
/-- Six verbs in new memory: a start, four bows, an end. -/
theorem ovb_six {TP TV : TypeId} (w : World) (p0 p1 p2 p3 p4 p5 p6 p7 p8 : Pt) {W5 W6 : World}
    (h5 : W5 = ((((w.alloc (.cells [Value.int .i64 p0.1, .int .i64 p0.2].toArray TP)).alloc (.cells [Value.int .i64 p1.1, .int .i64 p1.2, .int .i64 p2.1, .int .i64 p2.2].toArray TP)).alloc (.cells [Value.int .i64 p3.1, .int .i64 p3.2, .int .i64 p4.1, .int .i64 p4.2].toArray TP)).alloc (.cells [Value.int .i64 p5.1, .int .i64 p5.2, .int .i64 p6.1, .int .i64 p6.2].toArray TP)).alloc (.cells [Value.int .i64 p7.1, .int .i64 p7.2, .int .i64 p8.1, .int .i64 p8.2].toArray TP))
    (h6 : W6 = W5.alloc (.cells [Value.int .i64 0, .slice (some ⟨w.heap.size, 0, none⟩) 1 1, .int .i64 2, .slice (some ⟨w.heap.size + 1, 0, none⟩) 2 2, .int .i64 2, .slice (some ⟨w.heap.size + 2, 0, none⟩) 2 2, .int .i64 2, .slice (some ⟨w.heap.size + 3, 0, none⟩) 2 2, .int .i64 2, .slice (some ⟨w.heap.size + 4, 0, none⟩) 2 2, .int .i64 4, .slice none 0 0].toArray TV)) :
    OVb W6 w.heap.size TP TV (.slice (some ⟨w.heap.size + 5, 0, none⟩) 6 6) [(0, [p0]), (2, [p1, p2]), (2, [p3, p4]), (2, [p5, p6]), (2, [p7, p8]), (4, [])]
      [.slice (some ⟨w.heap.size, 0, none⟩) 1 1, .slice (some ⟨w.heap.size + 1, 0, none⟩) 2 2, .slice (some ⟨w.heap.size + 2, 0, none⟩) 2 2, .slice (some ⟨w.heap.size + 3, 0, none⟩) 2 2, .slice (some ⟨w.heap.size + 4, 0, none⟩) 2 2, .slice none 0 0] ∧ Ext w W6 := by
  obtain ⟨e5, r1, r2, r3, r4, r5⟩ := new5 h5
  have hz : W5.heap.size = w.heap.size + 5 := by subst h5; simp
  obtain ⟨e6, r6⟩ := new1 h6
  rw [hz] at r6
  refine ⟨⟨rfl, own_of_row (n := 6) r6 (by omega) rfl (by decide), fun i hi => ?_, fun i j hi hj hij => ?_⟩, Ext.trans e5 e6⟩
  · match i, hi with
    | 0, _ => exact own_of_row (n := 1) (r1.ext e6) (by omega) rfl (by decide)
    | 1, _ => exact own_of_row (n := 2) (r2.ext e6) (by omega) rfl (by decide)
    | 2, _ => exact own_of_row (n := 2) (r3.ext e6) (by omega) rfl (by decide)
    | 3, _ => exact own_of_row (n := 2) (r4.ext e6) (by omega) rfl (by decide)
    | 4, _ => exact own_of_row (n := 2) (r5.ext e6) (by omega) rfl (by decide)
    | 5, _ => exact own_nil _ _ _ _
  · have key : ∀ (ss : List Value), ss = [.slice (some ⟨w.heap.size, 0, none⟩) 1 1, .slice (some ⟨w.heap.size + 1, 0, none⟩) 2 2, .slice (some ⟨w.heap.size + 2, 0, none⟩) 2 2, .slice (some ⟨w.heap.size + 3, 0, none⟩) 2 2, .slice (some ⟨w.heap.size + 4, 0, none⟩) 2 2, .slice none 0 0] → ∀ (i : Nat) (hi : i < ss.length), ss[i].ownBlock = if i = 5 then none else some (w.heap.size + i) := by
      rintro _ rfl i hi
      match i, hi with
      | 0, _ | 1, _ | 2, _ | 3, _ | 4, _ | 5, _ => rfl
    rw [key _ rfl i hi, key _ rfl j hj]
    by_cases h1 : i = 5
    · left; simp [h1]
    · right
      rw [if_neg h1]
      split
      · simp
      · intro h; injection h with h; omega
set_option maxRecDepth 100000 in
set_option maxHeartbeats 2000000 in
theorem c_iRoundPath (p : Pt) (r : Int) (w : World) : Calls Try.prog 11 #[ptW p, .int .i64 r] w fun e w' => RetVb w w' e (roundP p r) := by
  go_enter Try.func11, Try.ntmps11
  go_wp2_with fail
  refine (c_rhomb p r _).mono ?_
  rintro e w1 ⟨A, n, cap, rfl, hp, hb1⟩
  generalize hok : rhOk p r = ok at *
  have Hok := Lib.hid hok
  clear hok
  cases ok
  · clear hp
    go_wp2
    go_ret2
    exact RetVb.none (by simp [roundP, Hok.out]) (Ext.trans (by repeat (first | exact Below.refl _ _ | assumption | refine Below.drew ?_ | refine Below.alloc ?_ (by first | exact Nat.le_refl _ | omega | (simp; done) | (simp; omega)) _ | refine Below.setCell ?_ (by first | exact Nat.le_refl _ | omega | (simp; done) | (simp; omega)) _)) hb1)
  · obtain ⟨rfl, hp2⟩ := hp rfl
    have Hx : Hid (Ext w w1) := Lib.hid (Ext.trans (by repeat (first | exact Below.refl _ _ | assumption | refine Below.drew ?_ | refine Below.alloc ?_ (by first | exact Nat.le_refl _ | omega | (simp; done) | (simp; omega)) _ | refine Below.setCell ?_ (by first | exact Nat.le_refl _ | omega | (simp; done) | (simp; omega)) _)) hb1)
    have Hr : Hid (roundP p r = (rdIt (rd8 p r) 4 ++ [(4, [])], true)) := Lib.hid (by simp [roundP, Hok.out])
    obtain ⟨x, y⟩ := p
    obtain ⟨b, off, rfl, hb, hc⟩ := hp2.pts (by simp [rhPts])
    have hln : (rhPts (x, y) r).length = 4 := rfl
    obtain ⟨x1, y1⟩ := hc 0 (by simp [rhPts])
    obtain ⟨x2, y2⟩ := hc 1 (by simp [rhPts])
    obtain ⟨x3, y3⟩ := hc 2 (by simp [rhPts])
    obtain ⟨x4, y4⟩ := hc 3 (by simp [rhPts])
    simp only [rhPts, List.getElem_cons_zero, List.getElem_cons_succ, Nat.zero_mul, Nat.one_mul, Nat.reduceMul, Nat.add_zero, Nat.add_assoc, Nat.reduceAdd] at x1 y1 x2 y2 x3 y3 x4 y4
    rw [hln] at *
    obtain ⟨u1, hu1⟩ : ∃ u, u = y - r := ⟨_, rfl⟩
    obtain ⟨u2, hu2⟩ : ∃ u, u = x + r := ⟨_, rfl⟩
    obtain ⟨u3, hu3⟩ : ∃ u, u = y + r := ⟨_, rfl⟩
    obtain ⟨u4, hu4⟩ : ∃ u, u = x - r := ⟨_, rfl⟩
    have Hq : Hid (rd8 (x, y) r = [(x, u1), (u2, u1), (u2, y), (u2, u3), (x, u3), (u4, u3), (u4, y), (u4, u1)]) := Lib.hid (by simp [rd8, hu1, hu2, hu3, hu4])
    rw [← hu1] at y1
    rw [← hu2] at x2
    rw [← hu3] at y3
    rw [← hu4] at x4
    clear hc hp2 hb1 hp hu1 hu2 hu3 hu4 hln
    go_wp2_with fail
    refine wp_region_invJ [0,1,2,3,4,5,6,7,8,9,10,11] [(12, some 8), (13, some 9), (14, some 10), (15, some 11), (16, none), (17, none), (18, none), (19, none)] (by kernel_rfl) (by kernel_rfl)
      (FourJ w1.heap.size (fun i => if i = 0 then (x, u1) else if i = 1 then (u2, y) else if i = 2 then (x, u3) else (u4, y)) 31) (fun _ _ _ _ h hx => h.ext hx) ?_ ?_
    · intro vals w'
      exact ⟨fun i hi hl => by (match i, hi with
        | 0, _ | 1, _ | 2, _ | 3, _ => exact absurd hl (by decide)), fun i hi hl => by (match i, hi with
        | 0, _ | 1, _ | 2, _ | 3, _ => exact absurd hl (by decide)), fun i j hi hj _ hl => by (match i, hi with
        | 0, _ | 1, _ | 2, _ | 3, _ => exact absurd hl (by decide))⟩
    iterate 12 ((refine calm_yes rfl rfl (fun w' hC => (by have x1 := hC.cell x1; have y1 := hC.cell y1; have x2 := hC.cell x2; have y2 := hC.cell y2; have x3 := hC.cell x3; have y3 := hC.cell y3; have x4 := hC.cell x4; have y4 := hC.cell y4; go_simp; rfl)) (fun K hK => ?_); go_simp; refine hK _ ?_; clear hK K))
    refine calm_nil ?_
    clear x1 y1 x2 y2 x3 y3 x4 y4
    refine ⟨List.forall_mem_cons.2 ⟨?_, List.forall_mem_cons.2 ⟨?_, List.forall_mem_cons.2 ⟨?_, List.forall_mem_cons.2 ⟨?_, List.forall_mem_cons.2 ⟨?_, List.forall_mem_cons.2 ⟨?_, List.forall_mem_cons.2 ⟨?_, List.forall_mem_cons.2 ⟨?_, by simp⟩⟩⟩⟩⟩⟩⟩⟩, ?_⟩
    · refine step_op rfl (fun vals => rfl) (fun listed vals w' hC hl hn hJ K hK => ?_)
      have hz : w1.heap.size ≤ w'.heap.size := hC.size
      simp only [canon, List.foldl_cons, List.foldl_nil]
      go_simp
      exact hK _ (.pointer (some ⟨w'.heap.size, 0, none⟩)) _ rfl (Below.alloc hC hC.size _) (hJ.alloc (i := 0) hz (by decide) hl (cs := [.int .i64 0, .int .i64 0]) rfl)
    · refine step_op rfl (fun vals => rfl) (fun listed vals w' hC hl hn hJ K hK => ?_)
      have hz : w1.heap.size ≤ w'.heap.size := hC.size
      simp only [canon, List.foldl_cons, List.foldl_nil]
      go_simp
      exact hK _ (.pointer (some ⟨w'.heap.size, 0, none⟩)) _ rfl (Below.alloc hC hC.size _) (hJ.alloc (i := 1) hz (by decide) hl (cs := [.int .i64 0, .int .i64 0]) rfl)
    · refine step_op rfl (fun vals => rfl) (fun listed vals w' hC hl hn hJ K hK => ?_)
      have hz : w1.heap.size ≤ w'.heap.size := hC.size
      simp only [canon, List.foldl_cons, List.foldl_nil]
      go_simp
      exact hK _ (.pointer (some ⟨w'.heap.size, 0, none⟩)) _ rfl (Below.alloc hC hC.size _) (hJ.alloc (i := 2) hz (by decide) hl (cs := [.int .i64 0, .int .i64 0]) rfl)
    · refine step_op rfl (fun vals => rfl) (fun listed vals w' hC hl hn hJ K hK => ?_)
      have hz : w1.heap.size ≤ w'.heap.size := hC.size
      simp only [canon, List.foldl_cons, List.foldl_nil]
      go_simp
      exact hK _ (.pointer (some ⟨w'.heap.size, 0, none⟩)) _ rfl (Below.alloc hC hC.size _) (hJ.alloc (i := 3) hz (by decide) hl (cs := [.int .i64 0, .int .i64 0]) rfl)
    · refine step_op rfl (fun vals => rfl) (fun listed vals w' hC hl hn hJ K hK => ?_)
      have hu := hn 12 (by kernel_rfl)
      obtain ⟨g, cs, h1, h2, h3, h4, _⟩ := hJ.at_ 0 (by decide) hu
      replace h1 : vals 12 = .pointer (some ⟨g, 0, none⟩) := h1
      match cs, h4 with
      | [c, d], _ =>
      have e0 := h3.cell_of (i := 0) rfl
      have z0 := h3.frozen 0
      have h5 := h3.set_ 0 (.int .i64 x)
      have e1 := h5.cell_of (i := 1) rfl
      have z1 := h5.frozen 1
      have h6 := h5.set_ 1 (.int .i64 u1)
      have b1 : Below w1.drew.heap.size w1.drew (w'.setCell ⟨g, 0, none⟩ (.int .i64 x)) := Below.setCell hC (show w1.drew.heap.size ≤ g from h2) _
      have b2 : Below w1.drew.heap.size w1.drew ((w'.setCell ⟨g, 0, none⟩ (.int .i64 x)).setCell ⟨g, 1, none⟩ (.int .i64 u1)) := Below.setCell b1 (show w1.drew.heap.size ≤ g from h2) _
      simp only [canon, List.foldl_cons, List.foldl_nil]
      rw [h1]
      go_simp
      exact hK _ (.bool false) _ (by simp only [canon, List.foldl_cons, List.foldl_nil, h1]; rfl) b2 (hJ.store (i := 0) (by decide) hu h1 _ h6 (fun g' cs hne hrow => (hrow.far hne _).far hne _))
    · refine step_op rfl (fun vals => rfl) (fun listed vals w' hC hl hn hJ K hK => ?_)
      have hu := hn 13 (by kernel_rfl)
      obtain ⟨g, cs, h1, h2, h3, h4, _⟩ := hJ.at_ 1 (by decide) hu
      replace h1 : vals 13 = .pointer (some ⟨g, 0, none⟩) := h1
      match cs, h4 with
      | [c, d], _ =>
      have e0 := h3.cell_of (i := 0) rfl
      have z0 := h3.frozen 0
      have h5 := h3.set_ 0 (.int .i64 u2)
      have e1 := h5.cell_of (i := 1) rfl
      have z1 := h5.frozen 1
      have h6 := h5.set_ 1 (.int .i64 y)
      have b1 : Below w1.drew.heap.size w1.drew (w'.setCell ⟨g, 0, none⟩ (.int .i64 u2)) := Below.setCell hC (show w1.drew.heap.size ≤ g from h2) _
      have b2 : Below w1.drew.heap.size w1.drew ((w'.setCell ⟨g, 0, none⟩ (.int .i64 u2)).setCell ⟨g, 1, none⟩ (.int .i64 y)) := Below.setCell b1 (show w1.drew.heap.size ≤ g from h2) _
      simp only [canon, List.foldl_cons, List.foldl_nil]
      rw [h1]
      go_simp
      exact hK _ (.bool false) _ (by simp only [canon, List.foldl_cons, List.foldl_nil, h1]; rfl) b2 (hJ.store (i := 1) (by decide) hu h1 _ h6 (fun g' cs hne hrow => (hrow.far hne _).far hne _))
    · refine step_op rfl (fun vals => rfl) (fun listed vals w' hC hl hn hJ K hK => ?_)
      have hu := hn 14 (by kernel_rfl)
      obtain ⟨g, cs, h1, h2, h3, h4, _⟩ := hJ.at_ 2 (by decide) hu
      replace h1 : vals 14 = .pointer (some ⟨g, 0, none⟩) := h1
      match cs, h4 with
      | [c, d], _ =>
      have e0 := h3.cell_of (i := 0) rfl
      have z0 := h3.frozen 0
      have h5 := h3.set_ 0 (.int .i64 x)
      have e1 := h5.cell_of (i := 1) rfl
      have z1 := h5.frozen 1
      have h6 := h5.set_ 1 (.int .i64 u3)
      have b1 : Below w1.drew.heap.size w1.drew (w'.setCell ⟨g, 0, none⟩ (.int .i64 x)) := Below.setCell hC (show w1.drew.heap.size ≤ g from h2) _
      have b2 : Below w1.drew.heap.size w1.drew ((w'.setCell ⟨g, 0, none⟩ (.int .i64 x)).setCell ⟨g, 1, none⟩ (.int .i64 u3)) := Below.setCell b1 (show w1.drew.heap.size ≤ g from h2) _
      simp only [canon, List.foldl_cons, List.foldl_nil]
      rw [h1]
      go_simp
      exact hK _ (.bool false) _ (by simp only [canon, List.foldl_cons, List.foldl_nil, h1]; rfl) b2 (hJ.store (i := 2) (by decide) hu h1 _ h6 (fun g' cs hne hrow => (hrow.far hne _).far hne _))
    · refine step_op rfl (fun vals => rfl) (fun listed vals w' hC hl hn hJ K hK => ?_)
      have hu := hn 15 (by kernel_rfl)
      obtain ⟨g, cs, h1, h2, h3, h4, _⟩ := hJ.at_ 3 (by decide) hu
      replace h1 : vals 15 = .pointer (some ⟨g, 0, none⟩) := h1
      match cs, h4 with
      | [c, d], _ =>
      have e0 := h3.cell_of (i := 0) rfl
      have z0 := h3.frozen 0
      have h5 := h3.set_ 0 (.int .i64 u4)
      have e1 := h5.cell_of (i := 1) rfl
      have z1 := h5.frozen 1
      have h6 := h5.set_ 1 (.int .i64 y)
      have b1 : Below w1.drew.heap.size w1.drew (w'.setCell ⟨g, 0, none⟩ (.int .i64 u4)) := Below.setCell hC (show w1.drew.heap.size ≤ g from h2) _
      have b2 : Below w1.drew.heap.size w1.drew ((w'.setCell ⟨g, 0, none⟩ (.int .i64 u4)).setCell ⟨g, 1, none⟩ (.int .i64 y)) := Below.setCell b1 (show w1.drew.heap.size ≤ g from h2) _
      simp only [canon, List.foldl_cons, List.foldl_nil]
      rw [h1]
      go_simp
      exact hK _ (.bool false) _ (by simp only [canon, List.foldl_cons, List.foldl_nil, h1]; rfl) b2 (hJ.store (i := 3) (by decide) hu h1 _ h6 (fun g' cs hne hrow => (hrow.far hne _).far hne _))
    · intro listed vals w' hx hall hJ K hK
      obtain ⟨g1, cs1, k1, _, r1, _, q1⟩ := hJ.at_ 0 (by decide) (hall 12 (by decide))
      obtain ⟨g2, cs2, k2, _, r2, _, q2⟩ := hJ.at_ 1 (by decide) (hall 13 (by decide))
      obtain ⟨g3, cs3, k3, _, r3, _, q3⟩ := hJ.at_ 2 (by decide) (hall 14 (by decide))
      obtain ⟨g4, cs4, k4, _, r4, _, q4⟩ := hJ.at_ 3 (by decide) (hall 15 (by decide))
      replace k1 : vals 12 = .pointer (some ⟨g1, 0, none⟩) := k1
      replace k2 : vals 13 = .pointer (some ⟨g2, 0, none⟩) := k2
      replace k3 : vals 14 = .pointer (some ⟨g3, 0, none⟩) := k3
      replace k4 : vals 15 = .pointer (some ⟨g4, 0, none⟩) := k4
      obtain rfl : cs1 = [.int .i64 x, .int .i64 u1] := q1 (hall 16 (by decide))
      obtain rfl : cs2 = [.int .i64 u2, .int .i64 y] := q2 (hall 17 (by decide))
      obtain rfl : cs3 = [.int .i64 x, .int .i64 u3] := q3 (hall 18 (by decide))
      obtain rfl : cs4 = [.int .i64 u4, .int .i64 y] := q4 (hall 19 (by decide))
      have x1 := r1.cell_of (i := 0) rfl
      have y1 := r1.cell_of (i := 1) rfl
      have x2 := r2.cell_of (i := 0) rfl
      have y2 := r2.cell_of (i := 1) rfl
      have x3 := r3.cell_of (i := 0) rfl
      have y3 := r3.cell_of (i := 1) rfl
      have x4 := r4.cell_of (i := 0) rfl
      have y4 := r4.cell_of (i := 1) rfl
      have l1 := r1.lt
      have l2 := r2.lt
      have l3 := r3.lt
      have l4 := r4.lt
      have l11 : g1 < w'.heap.size + 1 := by omega
      have l12 : g1 < w'.heap.size + 2 := by omega
      have l13 : g1 < w'.heap.size + 3 := by omega
      have l14 : g1 < w'.heap.size + 4 := by omega
      have l15 : g1 < w'.heap.size + 5 := by omega
      have l21 : g2 < w'.heap.size + 1 := by omega
      have l22 : g2 < w'.heap.size + 2 := by omega
      have l23 : g2 < w'.heap.size + 3 := by omega
      have l24 : g2 < w'.heap.size + 4 := by omega
      have l25 : g2 < w'.heap.size + 5 := by omega
      have l31 : g3 < w'.heap.size + 1 := by omega
      have l32 : g3 < w'.heap.size + 2 := by omega
      have l33 : g3 < w'.heap.size + 3 := by omega
      have l34 : g3 < w'.heap.size + 4 := by omega
      have l35 : g3 < w'.heap.size + 5 := by omega
      have l41 : g4 < w'.heap.size + 1 := by omega
      have l42 : g4 < w'.heap.size + 2 := by omega
      have l43 : g4 < w'.heap.size + 3 := by omega
      have l44 : g4 < w'.heap.size + 4 := by omega
      have l45 : g4 < w'.heap.size + 5 := by omega
      have Hx2 := Lib.hid (Ext.trans Hx.out hx)
      simp only [canon, List.foldl_cons, List.foldl_nil]
      rw [k1, k2, k3, k4]
      go_simp
      refine hK _ ?_
      clear hK K hJ hall k1 k2 k3 k4 q1 q2 q3 q4 r1 r2 r3 r4 hx hb
      go_wp2
      go_ret2
      obtain ⟨ho, hx3⟩ := ovb_six (TP := 31) (TV := 62) w' (x, u1) (u2, u1) (u2, y) (u2, u3) (x, u3) (u4, u3) (u4, y) (u4, u1) (x, u1) rfl rfl
      exact RetVb.some (by rw [Hr.out, Hq.out]; rfl) ho (by rfl) Hx2.out hx3
end Go.Proofs.Ytalicpgnjpgloaa
