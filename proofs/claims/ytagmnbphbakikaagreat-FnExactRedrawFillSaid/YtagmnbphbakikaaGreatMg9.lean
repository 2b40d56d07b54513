/-
  Several texts in one: MarkW, MarkF.
-/
import Derived.Test.YtagmnbphbakikaaGreatMg10
namespace Go.Proofs.YtagmnbphbakikaaGreat
open Go Go.RowKit Reg
attribute [local go_sem] calmAt calmUpon
def IntV (v : Value) : Prop := ∃ z, v = .int .i64 z
/-- Blocks outside B1 .. B2 are as they were; elsewhere numbers may have become other numbers. -/
structure Mk (B1 B2 : Nat) (w w' : World) : Prop where
  below : Below B1 w w'
  block : ∀ i, i < w.heap.size → B2 ≤ i → w'.heap[i]? = w.heap[i]?
  cells : ∀ (i : Nat) cur e, w.heap[i]? = some (.cells cur e (0, 0)) → ∃ cur', w'.heap[i]? = some (.cells cur' e (0, 0)) ∧ ∀ (j : Nat) v, cur[j]? = some v → ∃ v', cur'[j]? = some v' ∧ (v' = v ∨ (IntV v ∧ IntV v'))
section
variable {B1 B2 : Nat} {w w' w2 : World}
theorem Mk.refl (B1 B2 : Nat) (w : World) : Mk B1 B2 w w := ⟨Below.refl _ _, fun _ _ _ => rfl, fun _ cur _ h => ⟨cur, h, fun _ v hv => ⟨v, hv, .inl rfl⟩⟩⟩
theorem Mk.trans (h : Mk B1 B2 w w') (h' : Mk B1 B2 w' w2) : Mk B1 B2 w w2 := by
  refine ⟨h.below.trans h'.below, fun i hi hB => (h'.block i (Nat.lt_of_lt_of_le hi h.below.size) hB).trans (h.block i hi hB), fun i cur e hc => ?_⟩
  obtain ⟨c1, h1, g1⟩ := h.cells i cur e hc
  obtain ⟨c2, h2, g2⟩ := h'.cells i c1 e h1
  refine ⟨c2, h2, fun j v hv => ?_⟩
  obtain ⟨v1, hv1, k1⟩ := g1 j v hv
  obtain ⟨v2, hv2, k2⟩ := g2 j v1 hv1
  refine ⟨v2, hv2, ?_⟩
  rcases k1 with rfl | ⟨k1, k1'⟩
  · exact k2
  · rcases k2 with rfl | ⟨_, k2'⟩
    · exact .inr ⟨k1, k1'⟩
    · exact .inr ⟨k1, k2'⟩
theorem Mk.ext (hx : Ext w w') (hB : B1 ≤ w.heap.size) : Mk B1 B2 w w' :=
  ⟨hx.mono hB, fun i hi _ => hx.block i hi, fun i cur _ h => ⟨cur, (hx.block i (Array.getElem?_eq_some_iff.1 h).1).trans h, fun _ v hv => ⟨v, hv, .inl rfl⟩⟩⟩
theorem Mk.set {g o : Nat} {cur : Array Value} {e : TypeId} {v : Value} (hc : w.heap[g]? = some (.cells cur e (0, 0))) (hv : cur[o]? = some v) (hi : IntV v) (h1 : B1 ≤ g) (h2 : g < B2) (z : Int) : Mk B1 B2 w (w.setCell ⟨g, o, none⟩ (.int .i64 z)) := by
  refine ⟨(Below.refl _ _).setCell h1 _, fun i _ hB => Below.heap_setCell w _ _ i (fun he => by dsimp only at he; omega), fun i cur2 e2 h => ?_⟩
  by_cases he : i = g
  · subst he
    rw [hc] at h
    injection h with h; injection h with h3 h4 _
    subst h3 h4
    refine ⟨cur.setIfInBounds o (.int .i64 z), by simp [World.setCell, Array.getElem?_modify, hc], fun j u hu => ?_⟩
    by_cases hj : j = o
    · subst hj
      rw [hv] at hu
      injection hu with hu
      subst hu
      exact ⟨.int .i64 z, by rw [Array.getElem?_setIfInBounds, if_pos rfl, if_pos (Array.getElem?_eq_some_iff.1 hv).1], .inr ⟨hi, z, rfl⟩⟩
    · exact ⟨u, by rw [Array.getElem?_setIfInBounds, if_neg (Ne.symm hj)]; exact hu, .inl rfl⟩
  · exact ⟨cur2, (Below.heap_setCell w _ _ i he).trans h, fun j u hu => ⟨u, hu, .inl rfl⟩⟩
/-- A row of numbers, at least m of them, between B1 and B2. -/
def NumR (B1 B2 : Nat) (w : World) (g m : Nat) (e : TypeId) : Prop := B1 ≤ g ∧ g < B2 ∧ ∃ cur, w.heap[g]? = some (.cells cur e (0, 0)) ∧ ∀ j < m, ∃ v, cur[j]? = some v ∧ IntV v
/-- A slice of n elements of sz numbers each. -/
def NumS (B1 B2 sz : Nat) (w : World) (e : TypeId) (v : Value) (n : Nat) : Prop := n ≤ 1048576 ∧ ((v = .slice none 0 0 ∧ n = 0) ∨ ∃ g cap, v = .slice (some ⟨g, 0, none⟩) n cap ∧ NumR B1 B2 w g (n * sz) e)
theorem NumR.mk {g m : Nat} {e : TypeId} (h : NumR B1 B2 w g m e) (hm : Mk B1 B2 w w') : NumR B1 B2 w' g m e := by
  obtain ⟨h1, h2, cur, h3, h4⟩ := h
  obtain ⟨c, h5, h6⟩ := hm.cells g cur e h3
  refine ⟨h1, h2, c, h5, fun j hj => ?_⟩
  obtain ⟨v, hv, hi⟩ := h4 j hj
  obtain ⟨v', hv', k⟩ := h6 j v hv
  exact ⟨v', hv', by rcases k with rfl | ⟨_, k⟩ <;> assumption⟩
theorem NumS.mk {sz n : Nat} {e : TypeId} {v : Value} (h : NumS B1 B2 sz w e v n) (hm : Mk B1 B2 w w') : NumS B1 B2 sz w' e v n := by
  refine ⟨h.1, ?_⟩
  rcases h.2 with h | ⟨g, cap, h1, h2⟩
  · exact .inl h
  · exact .inr ⟨g, cap, h1, h2.mk hm⟩
/-- A number in a row: what lies there, that it may be stored to, and what a number stored there leaves. -/
theorem Mk.at {g o : Nat} {cur : Array Value} {e : TypeId} {z : Int} (hc : w.heap[g]? = some (.cells cur e (0, 0))) (hv : cur[o]? = some (.int .i64 z)) (h1 : B1 ≤ g) (h2 : g < B2) :
    w.cell? ⟨g, o, none⟩ = some (.int .i64 z) ∧ w.frozen? ⟨g, o, none⟩ = false ∧ ∀ z : Int, Mk B1 B2 w (w.setCell ⟨g, o, none⟩ (.int .i64 z)) :=
  ⟨by simp [World.cell?, hc, hv], by simp [World.frozen?, hc], fun z' => Mk.set hc hv ⟨z, rfl⟩ h1 h2 z'⟩
theorem NumR.at {g m j : Nat} {e : TypeId} (h : NumR B1 B2 w g m e) (hj : j < m) : (∃ z, w.cell? ⟨g, j, none⟩ = some (.int .i64 z)) ∧ w.frozen? ⟨g, j, none⟩ = false ∧ ∀ z : Int, Mk B1 B2 w (w.setCell ⟨g, j, none⟩ (.int .i64 z)) := by
  obtain ⟨h1, h2, cur, h3, h4⟩ := h
  obtain ⟨v, hv, z, rfl⟩ := h4 j hj
  obtain ⟨a, b, c⟩ := Mk.at (z := z) h3 hv h1 h2
  exact ⟨⟨z, a⟩, b, c⟩
theorem Mk.int {cur cur' : Array Value} (h6 : ∀ (j : Nat) v, cur[j]? = some v → ∃ v', cur'[j]? = some v' ∧ (v' = v ∨ (IntV v ∧ IntV v'))) {j : Nat} (h : ∃ z, cur[j]? = some (.int .i64 z)) : ∃ z, cur'[j]? = some (.int .i64 z) := by
  obtain ⟨z, hz⟩ := h
  obtain ⟨v', hv', rfl | ⟨_, z', rfl⟩⟩ := h6 j _ hz
  · exact ⟨z, hv'⟩
  · exact ⟨z', hv'⟩
theorem Mk.sl {cur cur' : Array Value} (h6 : ∀ (j : Nat) v, cur[j]? = some v → ∃ v', cur'[j]? = some v' ∧ (v' = v ∨ (IntV v ∧ IntV v'))) {j n cap : Nat} {A : Option Addr} (h : cur[j]? = some (.slice A n cap)) : cur'[j]? = some (.slice A n cap) := by
  obtain ⟨v', hv', rfl | ⟨⟨z, hz⟩, _⟩⟩ := h6 j _ h
  · exact hv'
  · cases hz
end
theorem mk5 {B1 B2 : Nat} {w : World} {g a b c d f : Nat} {cur : Array Value} {e : TypeId} {z1 z2 z3 z4 z5 : Int} (hr : w.heap[g]? = some (.cells cur e (0, 0))) (n1 : cur[a]? = some (.int .i64 z1)) (n2 : cur[b]? = some (.int .i64 z2)) (n3 : cur[c]? = some (.int .i64 z3)) (n4 : cur[d]? = some (.int .i64 z4)) (n5 : cur[f]? = some (.int .i64 z5)) (h1 : B1 ≤ g) (h2 : g < B2) (y1 y2 y3 y4 y5 : Int) :
    Mk B1 B2 w (((((w.setCell ⟨g, a, none⟩ (.int .i64 y1)).setCell ⟨g, b, none⟩ (.int .i64 y2)).setCell ⟨g, c, none⟩ (.int .i64 y3)).setCell ⟨g, d, none⟩ (.int .i64 y4)).setCell ⟨g, f, none⟩ (.int .i64 y5)) := by
  have s1 := Mk.set hr n1 ⟨_, rfl⟩ h1 h2 y1
  obtain ⟨c1, r1, q1⟩ := s1.cells _ _ _ hr
  obtain ⟨x2, k2⟩ := Mk.int q1 ⟨_, n2⟩
  have s2 := s1.trans (Mk.set r1 k2 ⟨_, rfl⟩ h1 h2 y2)
  obtain ⟨c2, r2, q2⟩ := s2.cells _ _ _ hr
  obtain ⟨x3, k3⟩ := Mk.int q2 ⟨_, n3⟩
  have s3 := s2.trans (Mk.set r2 k3 ⟨_, rfl⟩ h1 h2 y3)
  obtain ⟨c3, r3, q3⟩ := s3.cells _ _ _ hr
  obtain ⟨x4, k4⟩ := Mk.int q3 ⟨_, n4⟩
  have s4 := s3.trans (Mk.set r3 k4 ⟨_, rfl⟩ h1 h2 y4)
  obtain ⟨c4, r4, q4⟩ := s4.cells _ _ _ hr
  obtain ⟨x5, k5⟩ := Mk.int q4 ⟨_, n5⟩
  exact s4.trans (Mk.set r4 k5 ⟨_, rfl⟩ h1 h2 y5)
theorem Row.mkd {B1 B2 b : Nat} {w w' : World} {e : TypeId} {cs : List Value} (h : Row w b e cs) (hm : Mk B1 B2 w w') (hB : B2 ≤ b) : Row w' b e cs := (hm.block b h.lt hB).trans h
theorem Has.mkd {B1 B2 B sz n : Nat} {w w' : World} {e : TypeId} {v : Value} {xs : List Value} (h : Has w B e sz v n xs) (hm : Mk B1 B2 w w') (hB : B2 ≤ B) : Has w' B e sz v n xs := by
  refine ⟨h.1, ?_⟩
  rcases h.2 with h0 | ⟨g, cap', cur, h1, h2, h3, h4⟩
  · exact .inl h0
  · exact .inr ⟨g, cap', cur, h1, h2, (hm.block g (Array.getElem?_eq_some_iff.1 h3).1 (by omega)).trans h3, h4⟩
set_option maxHeartbeats 1000000 in
theorem c_markPointW {w : World} {B1 B2 : Nat} {A : Option Addr} {n cap : Nat} (h : NumS B1 B2 2 w 45 (.slice A n cap) n) (k : Int) (h0 : 0 ≤ k) (h1 : k ≤ 4000000000000000000) :
    Calls Tryz.prog 89 #[.slice A n cap, .int .i64 k] w fun e w' => e = .returned (.int .i64 (k + 2 * n)) ∧ Mk B1 B2 w w' := by
  have hn := h.1
  have H := Lib.hid h
  clear h
  go_enter Tryz.func89, Tryz.ntmps89
  go_wp2
  go_loopw [1, 5] (fun kk i wr => ∃ j : Nat, j ≤ n ∧ i = .int .i64 j ∧ kk = .int .i64 (k + 2 * j) ∧ Mk B1 B2 w wr) (fun _ i _ => n - (intOf i).toNat)
  case atStart => exact ⟨0, Nat.zero_le _, rfl, by simp, Mk.refl _ _ _⟩
  case round =>
    obtain ⟨j, hj, rfl, rfl, hmk⟩ := hrel
    have Q := Lib.hid hmk
    clear hmk
    by_cases hlt : j < n
    · rcases (H.out.mk Q.out).2 with ⟨_, he⟩ | ⟨g, cap', he, hr⟩
      · omega
      · injection he with hA _ hc
        subst hA hc
        obtain ⟨⟨z0, c0⟩, f0, m0⟩ := hr.at (j := j * 2) (by omega)
        have hr2 := hr.mk (m0 (k + 2 * j))
        obtain ⟨⟨z1, c1⟩, f1, m1⟩ := hr2.at (j := j * 2 + 1) (by omega)
        have Q2 := Lib.hid ((Q.out.trans (m0 _)).trans (m1 (k + 2 * j + 1)))
        obtain ⟨⟨z2, c2⟩, f2, _⟩ := hr.at (j := j * 2 + 1) (by omega)
        clear m0 m1 hr hr2 c1 f1
        go_wp2
        go_roundw
        case rel => exact ⟨j + 1, by omega, by go_num, by congr 1; push_cast; omega, Q2.out⟩
        case measure => simp [intOf]; omega
    · obtain rfl : j = n := by omega
      go_wp2
      go_ret
      exact ⟨rfl, Q.out⟩
set_option maxRecDepth 100000 in
set_option maxHeartbeats 2000000 in
theorem c_markStopW {w : World} {B1 B2 : Nat} {A : Option Addr} {n cap : Nat} (h : NumS B1 B2 5 w 168 (.slice A n cap) n) (k : Int) (h0 : 0 ≤ k) (h1 : k ≤ 4000000000000000000) :
    Calls Tryz.prog 88 #[.slice A n cap, .int .i64 k] w fun e w' => e = .returned (.int .i64 (k + 5 * n)) ∧ Mk B1 B2 w w' := by
  have hn := h.1
  have H := Lib.hid h
  clear h
  go_enter Tryz.func88, Tryz.ntmps88
  go_wp2
  go_loopw [1, 5] (fun kk i wr => ∃ j : Nat, j ≤ n ∧ i = .int .i64 j ∧ kk = .int .i64 (k + 5 * j) ∧ Mk B1 B2 w wr) (fun _ i _ => n - (intOf i).toNat)
  case atStart => exact ⟨0, Nat.zero_le _, rfl, by simp, Mk.refl _ _ _⟩
  case round =>
    obtain ⟨j, hj, rfl, rfl, hmk⟩ := hrel
    have Q := Lib.hid hmk
    clear hmk
    by_cases hlt : j < n
    · rcases (H.out.mk Q.out).2 with ⟨_, he⟩ | ⟨g, cap', he, hr⟩
      · omega
      · injection he with hA _ hc
        subst hA hc
        obtain ⟨⟨z0, c0⟩, f0, m0⟩ := hr.at (j := j * 5) (by omega)
        have hr1 := hr.mk (m0 (k + 5 * j))
        obtain ⟨_, _, m1⟩ := hr1.at (j := j * 5 + 1) (by omega)
        have hr2 := hr1.mk (m1 (k + 5 * j + 1))
        obtain ⟨_, _, m2⟩ := hr2.at (j := j * 5 + 2) (by omega)
        have hr3 := hr2.mk (m2 (k + 5 * j + 1 + 1))
        obtain ⟨_, _, m3⟩ := hr3.at (j := j * 5 + 3) (by omega)
        have hr4 := hr3.mk (m3 (k + 5 * j + 1 + 1 + 1))
        obtain ⟨_, _, m4⟩ := hr4.at (j := j * 5 + 4) (by omega)
        have Q2 := Lib.hid (((((Q.out.trans (m0 _)).trans (m1 _)).trans (m2 _)).trans (m3 _)).trans (m4 (k + 5 * j + 1 + 1 + 1 + 1)))
        obtain ⟨⟨z1, c1⟩, f1, _⟩ := hr.at (j := j * 5 + 1) (by omega)
        obtain ⟨⟨z2, c2⟩, f2, _⟩ := hr.at (j := j * 5 + 2) (by omega)
        obtain ⟨⟨z3, c3⟩, f3, _⟩ := hr.at (j := j * 5 + 3) (by omega)
        obtain ⟨⟨z4, c4⟩, f4, _⟩ := hr.at (j := j * 5 + 4) (by omega)
        clear m0 m1 m2 m3 m4 hr hr1 hr2 hr3 hr4
        go_wp2
        go_roundw
        case rel => exact ⟨j + 1, by omega, by go_num, by congr 1; push_cast; omega, Q2.out⟩
        case measure => simp [intOf]; omega
    · obtain rfl : j = n := by omega
      go_wp2
      go_ret
      exact ⟨rfl, Q.out⟩
/-- A slice of verbs whose points are slices of numbers. -/
def VrbS (B1 B2 : Nat) (w : World) (v : Value) (n : Nat) : Prop := n ≤ 1048576 ∧ ((v = .slice none 0 0 ∧ n = 0) ∨ ∃ g cap, v = .slice (some ⟨g, 0, none⟩) n cap ∧ B1 ≤ g ∧ g < B2 ∧ ∃ cur, w.heap[g]? = some (.cells cur 128 (0, 0)) ∧
  ∀ j < n, (∃ z, cur[j * 2]? = some (.int .i64 z)) ∧ ∃ A m c, cur[j * 2 + 1]? = some (.slice A m c) ∧ NumS B1 B2 2 w 45 (.slice A m c) m)
theorem VrbS.mk {B1 B2 n : Nat} {w w' : World} {v : Value} (h : VrbS B1 B2 w v n) (hm : Mk B1 B2 w w') : VrbS B1 B2 w' v n := by
  refine ⟨h.1, ?_⟩
  rcases h.2 with h | ⟨g, cap, h1, h2, h3, cur, h4, h5⟩
  · exact .inl h
  · obtain ⟨c, h6, h7⟩ := hm.cells g cur _ h4
    refine .inr ⟨g, cap, h1, h2, h3, c, h6, fun j hj => ?_⟩
    obtain ⟨k1, A, m, cp, k2, k3⟩ := h5 j hj
    exact ⟨Mk.int h7 k1, A, m, cp, Mk.sl h7 k2, k3.mk hm⟩
set_option maxRecDepth 100000 in
set_option maxHeartbeats 2000000 in
theorem c_markVerbW {w : World} {B1 B2 : Nat} {A : Option Addr} {n cap : Nat} (h : VrbS B1 B2 w (.slice A n cap) n) (k : Int) (h0 : 0 ≤ k) (h1 : k ≤ 3000000000000000000) :
    Calls Tryz.prog 47 #[.slice A n cap, .int .i64 k] w fun e w' => ∃ k' : Int, e = .returned (.int .i64 k') ∧ k ≤ k' ∧ k' ≤ k + 2097153 * n ∧ Mk B1 B2 w w' := by
  have hn := h.1
  have H := Lib.hid h
  clear h
  go_enter Tryz.func47, Tryz.ntmps47
  go_wp2
  go_loopw [1, 5] (fun kk i wr => ∃ (j : Nat) (q : Int), j ≤ n ∧ i = .int .i64 j ∧ kk = .int .i64 q ∧ k ≤ q ∧ q ≤ k + 2097153 * j ∧ Mk B1 B2 w wr) (fun _ i _ => n - (intOf i).toNat)
  case atStart => exact ⟨0, k, Nat.zero_le _, rfl, rfl, by omega, by omega, Mk.refl _ _ _⟩
  case round =>
    obtain ⟨j, q, hj, rfl, rfl, hq1, hq2, hmk⟩ := hrel
    have Q := Lib.hid hmk
    clear hmk
    by_cases hlt : j < n
    · rcases (H.out.mk Q.out).2 with ⟨_, he⟩ | ⟨g, cap', he, hg1, hg2, cur, hr, hc⟩
      · omega
      · injection he with hA _ hc'
        subst hA hc'
        obtain ⟨⟨z, k1⟩, A2, m, cp, k2, k3⟩ := hc j hlt
        obtain ⟨c0, f0, m0⟩ := Mk.at hr k1 hg1 hg2
        have c1 : wr.cell? ⟨g, j * 2 + 1, none⟩ = some (.slice A2 m cp) := by simp [World.cell?, hr, k2]
        have hm := k3.1
        have Q2 := Lib.hid (Q.out.trans (m0 q))
        have K3 := Lib.hid (k3.mk (m0 q))
        clear hc hr k1 k2 k3 m0
        go_wp2_with fail
        refine (c_markPointW K3.out (q + 1) (by omega) (by omega)).mono ?_
        rintro e w1 ⟨rfl, hm1⟩
        have Q3 := Lib.hid (Q2.out.trans hm1)
        clear hm1 c0 c1 f0
        go_wp2
        go_roundw
        case rel => exact ⟨j + 1, q + 1 + 2 * m, by omega, by go_num, rfl, by omega, by omega, Q3.out⟩
        case measure => simp [intOf]; omega
    · obtain rfl : j = n := by omega
      go_wp2
      go_ret
      exact ⟨q, rfl, hq1, hq2, Q.out⟩
def StpS (B1 B2 : Nat) (w : World) (v : Value) (n : Nat) : Prop := NumS B1 B2 5 w 168 v n
/-- A slice of fills whose paths are slices of verbs and whose stops are slices of numbers. -/
def FlsS (B1 B2 : Nat) (w : World) (v : Value) (n : Nat) : Prop := n ≤ 1048576 ∧ ((v = .slice none 0 0 ∧ n = 0) ∨ ∃ g cap, v = .slice (some ⟨g, 0, none⟩) n cap ∧ B1 ≤ g ∧ g < B2 ∧ ∃ cur, w.heap[g]? = some (.cells cur 50 (0, 0)) ∧
  ∀ j < n, (∃ A m c, cur[j * 7]? = some (.slice A m c) ∧ VrbS B1 B2 w (.slice A m c) m) ∧ (∃ z, cur[j * 7 + 1]? = some (.int .i64 z)) ∧ (∃ z, cur[j * 7 + 2]? = some (.int .i64 z)) ∧ (∃ z, cur[j * 7 + 3]? = some (.int .i64 z)) ∧ (∃ z, cur[j * 7 + 4]? = some (.int .i64 z)) ∧ (∃ z, cur[j * 7 + 5]? = some (.int .i64 z)) ∧
    ∃ A m c, cur[j * 7 + 6]? = some (.slice A m c) ∧ NumS B1 B2 5 w 168 (.slice A m c) m)
theorem FlsS.mk {B1 B2 n : Nat} {w w' : World} {v : Value} (h : FlsS B1 B2 w v n) (hm : Mk B1 B2 w w') : FlsS B1 B2 w' v n := by
  refine ⟨h.1, ?_⟩
  rcases h.2 with h | ⟨g, cap, h1, h2, h3, cur, h4, h5⟩
  · exact .inl h
  · obtain ⟨c, h6, h7⟩ := hm.cells g cur _ h4
    refine .inr ⟨g, cap, h1, h2, h3, c, h6, fun j hj => ?_⟩
    obtain ⟨⟨A, m, cp, k2, k3⟩, n1, n2, n3, n4, n5, A2, m2, cp2, k4, k5⟩ := h5 j hj
    exact ⟨⟨A, m, cp, Mk.sl h7 k2, k3.mk hm⟩, Mk.int h7 n1, Mk.int h7 n2, Mk.int h7 n3, Mk.int h7 n4, Mk.int h7 n5, A2, m2, cp2, Mk.sl h7 k4, k5.mk hm⟩
set_option maxRecDepth 100000 in
set_option maxHeartbeats 4000000 in
theorem c_markFillW {w : World} {B1 B2 : Nat} {A : Option Addr} {n cap : Nat} (h : FlsS B1 B2 w (.slice A n cap) n) (k : Int) (h0 : 0 ≤ k) (h1 : k ≤ 100000000000000) :
    Calls Tryz.prog 46 #[.slice A n cap, .int .i64 k] w fun e w' => ∃ k' : Int, e = .returned (.int .i64 k') ∧ k ≤ k' ∧ k' ≤ k + 2200000000000 * n ∧ Mk B1 B2 w w' := by
  have hn := h.1
  have H := Lib.hid h
  clear h
  go_enter Tryz.func46, Tryz.ntmps46
  go_wp2
  go_loopw [1, 5] (fun kk i wr => ∃ (j : Nat) (q : Int), j ≤ n ∧ i = .int .i64 j ∧ kk = .int .i64 q ∧ k ≤ q ∧ q ≤ k + 2200000000000 * j ∧ Mk B1 B2 w wr) (fun _ i _ => n - (intOf i).toNat)
  case atStart => exact ⟨0, k, Nat.zero_le _, rfl, rfl, by omega, by omega, Mk.refl _ _ _⟩
  case round =>
    obtain ⟨j, q, hj, rfl, rfl, hq1, hq2, hmk⟩ := hrel
    have Q := Lib.hid hmk
    clear hmk
    by_cases hlt : j < n
    · have HF := Lib.hid (H.out.mk Q.out)
      rcases HF.out.2 with ⟨_, he⟩ | ⟨g, cap', he, hg1, hg2, cur, hr, hc⟩
      · omega
      · injection he with hA _ hc'
        subst hA hc'
        obtain ⟨⟨A1, m1, p1, k2, k3⟩, _, _, _, _, _, _⟩ := hc j hlt
        have c0 : wr.cell? ⟨g, j * 7, none⟩ = some (.slice A1 m1 p1) := by simp [World.cell?, hr, k2]
        have hm1 := k3.1
        have K3 := Lib.hid k3
        clear hc hr k2 k3
        go_wp2_with fail
        refine (c_markVerbW K3.out q (by omega) (by omega)).mono ?_
        rintro e w1 ⟨q2, rfl, hq3, hq4, hmv⟩
        have Q2 := Lib.hid (Q.out.trans hmv)
        have HF2 := Lib.hid (HF.out.mk hmv)
        clear hmv c0
        rcases HF2.out.2 with ⟨h9, _⟩ | ⟨g2, cap2, he2, _, _, cur2, hr2, hc2⟩
        · cases h9
        · have hgg : g = g2 := by injection he2 with h _ _; injection h with h; injection h with h _ _
          subst hgg
          clear he2
          obtain ⟨_, ⟨z1, n1⟩, ⟨z2, n2⟩, ⟨z3, n3⟩, ⟨z4, n4⟩, ⟨z5, n5⟩, A6, m6, p6, k6, k7⟩ := hc2 j hlt
          have hm6 := k7.1
          obtain ⟨d1, f1, s1⟩ := Mk.at hr2 n1 hg1 hg2
          obtain ⟨d2, f2, _⟩ := Mk.at hr2 n2 hg1 hg2
          obtain ⟨d3, f3, _⟩ := Mk.at hr2 n3 hg1 hg2
          obtain ⟨d4, f4, _⟩ := Mk.at hr2 n4 hg1 hg2
          obtain ⟨d5, f5, _⟩ := Mk.at hr2 n5 hg1 hg2
          have d6 : w1.cell? ⟨g, j * 7 + 6, none⟩ = some (.slice A6 m6 p6) := by simp [World.cell?, hr2, k6]
          have S := Lib.hid (mk5 hr2 n1 n2 n3 n4 n5 hg1 hg2 q2 (q2 + 1) (q2 + 1 + 1) (q2 + 1 + 1 + 1) (q2 + 1 + 1 + 1 + 1))
          have K7 := Lib.hid (k7.mk S.out)
          clear hc2 hr2 n1 n2 n3 n4 n5 k6 k7 s1
          go_wp2_with fail
          refine (c_markStopW K7.out (q2 + 1 + 1 + 1 + 1 + 1) (by omega) (by omega)).mono ?_
          rintro e w3 ⟨rfl, hms⟩
          have Q3 := Lib.hid ((Q2.out.trans S.out).trans hms)
          clear hms d1 d2 d3 d4 d5 d6 f1 f2 f3 f4 f5
          go_wp2
          go_roundw
          case rel => exact ⟨j + 1, q2 + 1 + 1 + 1 + 1 + 1 + 5 * m6, by omega, by go_num, rfl, by omega, by omega, Q3.out⟩
          case measure => simp [intOf]; omega
    · obtain rfl : j = n := by omega
      go_wp2
      go_ret
      exact ⟨q, rfl, hq1, hq2, Q.out⟩
/-! what a copied scene is -/
theorem NumS.of_has {B sz n : Nat} {w : World} {e : TypeId} {v : Value} {xs : List Value} (h : Has w B e sz v n xs) (hi : ∀ x ∈ xs, IntV x) (hn : n ≤ 1048576) : NumS B w.heap.size sz w e v n := by
  refine ⟨hn, ?_⟩
  rcases h.2 with h0 | ⟨g, cap, cur, h1, h2, h3, _, _, _, h7⟩
  · exact .inl h0
  · refine .inr ⟨g, cap, h1, h2, (Array.getElem?_eq_some_iff.1 h3).1, cur, h3, fun j hj => ?_⟩
    have hl : j < xs.length := by rw [h.1]; exact hj
    have e : cur[j]? = some xs[j] := by
      have e1 : xs[j]? = some xs[j] := List.getElem?_eq_getElem hl
      have e2 : (cur.toList.take (n * sz))[j]? = some xs[j] := by rw [h7]; exact e1
      rw [List.getElem?_take_of_lt hj] at e2
      rw [← Array.getElem?_toList]
      exact e2
    exact ⟨xs[j], e, hi _ (List.getElem_mem hl)⟩
theorem NumS.of_row {B sz n b : Nat} {w : World} {e : TypeId} {xs : List Value} (h : Row w b e xs) (hB : B ≤ b) (hl : n * sz ≤ xs.length) (hi : ∀ x ∈ xs, IntV x) (hn : n ≤ 1048576) : NumS B w.heap.size sz w e (.slice (some ⟨b, 0, none⟩) n n) n := by
  refine ⟨hn, .inr ⟨b, n, rfl, hB, h.lt, xs.toArray, h, fun j hj => ⟨xs[j]'(by omega), by rw [List.getElem?_toArray]; exact List.getElem?_eq_getElem (by omega), hi _ (List.getElem_mem _)⟩⟩⟩
theorem ptC_int (ps : List Pt) : ∀ x ∈ ps.flatMap ptC, IntV x := by
  intro x hx
  obtain ⟨p, _, hp⟩ := List.mem_flatMap.1 hx
  simp only [ptC, List.mem_cons, List.not_mem_nil, or_false] at hp
  rcases hp with rfl | rfl <;> exact ⟨_, rfl⟩
theorem stC_int (ss : List St) : ∀ x ∈ ss.flatMap stC, IntV x := by
  intro x hx
  obtain ⟨p, _, hp⟩ := List.mem_flatMap.1 hx
  simp only [stC, bxC, List.mem_cons, List.not_mem_nil, or_false] at hp
  rcases hp with rfl | rfl | rfl | rfl | rfl <;> exact ⟨_, rfl⟩
theorem VrbS.of_ovb {B cap : Nat} {w : World} {A : Option Addr} {vs : List Vb} {ss : List Value} (h : OVb w B 45 128 (.slice A vs.length cap) vs ss) (hn : vs.length ≤ 1048576) (hs : ∀ v ∈ vs, v.2.length ≤ 1048576) : VrbS B w.heap.size w (.slice A vs.length cap) vs.length := by
  refine ⟨hn, ?_⟩
  rcases h.out.2 with h0 | ⟨g, cap', cur, h1, h2, h3, _, _, _, h7⟩
  · exact .inl h0
  · refine .inr ⟨g, cap', h1, h2, (Array.getElem?_eq_some_iff.1 h3).1, cur, h3, fun j hj => ?_⟩
    obtain ⟨z0, z1⟩ := zipC_get h.len hj
    have get : ∀ i u, i < vs.length * 2 → (zipC vs ss)[i]? = some u → cur[i]? = some u := fun i u hi hu => by
      rw [← h7, List.getElem?_take_of_lt hi, Array.getElem?_toList] at hu
      exact hu
    have hj2 : j < ss.length := by rw [h.len]; exact hj
    obtain ⟨A1, c1, e1⟩ := own_form (h.inn j hj)
    rw [e1] at z1
    refine ⟨⟨_, get _ _ (by omega) z0⟩, A1, _, c1, get _ _ (by omega) z1, ?_⟩
    have := NumS.of_has (h.inn j hj) (ptC_int _) (hs _ (List.getElem_mem hj))
    rw [e1] at this
    exact this
theorem FlsS.of_row {B b : Nat} {w : World} {fs : List FlD} {cs : List Value} (h : FlRow B w fs fs.length cs) (hr : Row w b 50 cs) (hB : B ≤ b) (hsm : flsSm fs) : FlsS B w.heap.size w (.slice (some ⟨b, 0, none⟩) fs.length fs.length) fs.length := by
  refine ⟨hsm.1, .inr ⟨b, fs.length, rfl, hB, hr.lt, cs.toArray, hr, fun j hj => ?_⟩⟩
  obtain ⟨us, ⟨b1, sp, b2, e, h1, h2, h3, _, _⟩, _, hc⟩ := h.2 j hj hj
  subst e
  obtain ⟨s1, _, s3, s4⟩ := hsm.2 _ (List.getElem_mem hj)
  have get : ∀ i u, (flC (some ⟨b1, 0, none⟩) fs[j].1.length fs[j].1.length fs[j].2.1 fs[j].2.2.1 fs[j].2.2.2.1 (some ⟨b2, 0, none⟩) fs[j].2.2.2.2.length fs[j].2.2.2.2.length)[i]? = some u → cs.toArray[j * 7 + i]? = some u := fun i u hu => by
    rw [List.getElem?_toArray]; exact hc i u hu
  have hlen : (fs[j].2.2.2.2.flatMap stC).length = fs[j].2.2.2.2.length * 5 := by
    rw [List.length_flatMap]
    have : ∀ l : List St, (l.map fun x => (stC x).length).sum = l.length * 5 := by
      intro l
      induction l with
      | nil => rfl
      | cons a l ih => rw [List.map_cons, List.sum_cons, ih, stC_len, List.length_cons]; omega
    exact this _
  exact ⟨⟨_, _, _, get 0 _ rfl, VrbS.of_ovb h1 s1 s3⟩, ⟨_, get 1 _ rfl⟩, ⟨_, get 2 _ rfl⟩, ⟨_, get 3 _ rfl⟩, ⟨_, get 4 _ rfl⟩, ⟨_, get 5 _ rfl⟩, _, _, _, get 6 _ rfl, NumS.of_row h3 h2 (by omega) (stC_int _) s4⟩
/-- A copied scene, carried along. -/
def FlsK (B1 B2 : Nat) (w : World) (v : Value) (n : Nat) : Prop := (B1 ≤ B2 ∧ B2 ≤ w.heap.size) ∧ FlsS B1 B2 w v n
theorem FlsK.ext {B1 B2 n : Nat} {w w' : World} {v : Value} (h : FlsK B1 B2 w v n) (hx : Ext w w') : FlsK B1 B2 w' v n := ⟨⟨h.1.1, Nat.le_trans h.1.2 hx.size⟩, h.2.mk (Mk.ext hx (Nat.le_trans h.1.1 h.1.2))⟩
theorem c_markSceneW {w : World} {B1 B2 : Nat} (x y : Int) {A : Option Addr} {n cap : Nat} (hK : FlsK B1 B2 w (.slice A n cap) n) (k : Int) (h0 : 0 ≤ k) (h1 : k ≤ 100000000) :
    Calls Tryz.prog 14 #[.agg #[.int .i64 x, .int .i64 y, .slice A n cap], .int .i64 k] w fun e w' => ∃ k' : Int, e = .returned (.int .i64 k') ∧ k ≤ k' ∧ k' ≤ k + 2200000000000 * n ∧ Mk B1 B2 w w' := by
  have h := hK.2
  have hB : B1 ≤ w.heap.size := Nat.le_trans hK.1.1 hK.1.2
  have hn := h.1
  have H := Lib.hid h
  have E := Lib.hid (Ext.refl w)
  clear h hK
  go_enter Tryz.func14, Tryz.ntmps14
  go_wp2_with fail
  first | refine gen_calls ?_ | refine gen_code ?_ | refine gen_list ?_
  intro w0 hW
  obtain ⟨hb, hR0⟩ := new1 hW
  clear hW
  replace E := Lib.hid (Ext.trans E.out hb)
  clear hb
  have R0 := Lib.hid hR0
  have lR0 := R0.out.lt
  clear hR0
  have c0 := R0.out.cell_of (i := 0) rfl
  have c1 := R0.out.cell_of (i := 1) rfl
  have c2 := R0.out.cell_of (i := 2) rfl
  go_wp2_with fail
  clear c0 c1 c2
  refine (c_markFillW (H.out.mk (Mk.ext E.out hB)) k h0 (by omega)).mono ?_
  rintro e w1 ⟨q, rfl, hq1, hq2, hm⟩
  have Q := Lib.hid ((Mk.ext E.out hB).trans hm)
  clear hm
  go_wp2
  go_ret
  exact ⟨q, rfl, hq1, hq2, Q.out⟩
end Go.Proofs.YtagmnbphbakikaaGreat
namespace Go.Proofs.YtagmnbphbakikaaGreat
open Go Go.RowKit Reg
attribute [local go_sem] calmAt calmUpon
/-- A copied fill. -/
def FilK (B1 B2 : Nat) (w : World) (A1 : Option Addr) (n1 c1 : Nat) (A2 : Option Addr) (n2 c2 : Nat) : Prop := (B1 ≤ B2 ∧ B2 ≤ w.heap.size) ∧ VrbS B1 B2 w (.slice A1 n1 c1) n1 ∧ NumS B1 B2 5 w 168 (.slice A2 n2 c2) n2
theorem FilK.ext {B1 B2 n1 c1 n2 c2 : Nat} {A1 A2 : Option Addr} {w w' : World} (h : FilK B1 B2 w A1 n1 c1 A2 n2 c2) (hx : Ext w w') : FilK B1 B2 w' A1 n1 c1 A2 n2 c2 :=
  ⟨⟨h.1.1, Nat.le_trans h.1.2 hx.size⟩, h.2.1.mk (Mk.ext hx (Nat.le_trans h.1.1 h.1.2)), h.2.2.mk (Mk.ext hx (Nat.le_trans h.1.1 h.1.2))⟩
theorem FilK.mk {B1 B2 n1 c1 n2 c2 : Nat} {A1 A2 : Option Addr} {w w' : World} (h : FilK B1 B2 w A1 n1 c1 A2 n2 c2) (hx : Mk B1 B2 w w') : FilK B1 B2 w' A1 n1 c1 A2 n2 c2 :=
  ⟨⟨h.1.1, Nat.le_trans h.1.2 hx.below.size⟩, h.2.1.mk hx, h.2.2.mk hx⟩
set_option maxHeartbeats 1000000 in
theorem c_markPaintW {w : World} {B1 B2 : Nat} (f t : Pt) {A : Option Addr} {n cap : Nat} (h : NumS B1 B2 5 w 168 (.slice A n cap) n) (hB : B1 ≤ w.heap.size) (k : Int) (h0 : 0 ≤ k) (h1 : k ≤ 4000000000000000000) :
    Calls Tryz.prog 48 #[paV f t A n cap, .int .i64 k] w fun e w' => e = .returned (.int .i64 (k + 5 * n)) ∧ Mk B1 B2 w w' := by
  have hn := h.1
  have H := Lib.hid h
  have E := Lib.hid (Ext.refl w)
  clear h
  go_enter Tryz.func48, Tryz.ntmps48
  go_wp2_with fail
  first | refine gen_calls ?_ | refine gen_code ?_ | refine gen_list ?_
  intro w0 hW
  obtain ⟨hb, hR0⟩ := new1 hW
  clear hW
  replace E := Lib.hid (Ext.trans E.out hb)
  clear hb
  have R0 := Lib.hid hR0
  have lR0 := R0.out.lt
  clear hR0
  have c0 := R0.out.cell_of (i := 0) rfl
  have c1 := R0.out.cell_of (i := 1) rfl
  have c2 := R0.out.cell_of (i := 2) rfl
  have c3 := R0.out.cell_of (i := 3) rfl
  have c4 := R0.out.cell_of (i := 4) rfl
  go_wp2_with fail
  clear c0 c1 c2 c3 c4
  refine (c_markStopW (H.out.mk (Mk.ext E.out hB)) k h0 h1).mono ?_
  rintro e w1 ⟨rfl, hm⟩
  have Q := Lib.hid ((Mk.ext E.out hB).trans hm)
  clear hm
  go_wp2
  go_ret
  exact ⟨rfl, Q.out⟩
set_option maxHeartbeats 1000000 in
theorem c_markFill1 {w : World} {B1 B2 : Nat} (q : Int) (f t : Pt) {A1 A2 : Option Addr} {n1 c1 n2 c2 : Nat} (hK : FilK B1 B2 w A1 n1 c1 A2 n2 c2) (k : Int) (h0 : 0 ≤ k) (h1 : k ≤ 2500000000000000000) :
    Calls Tryz.prog 15 #[flV A1 n1 c1 q f t A2 n2 c2, .int .i64 k] w fun e w' => ∃ k' : Int, e = .returned (.int .i64 k') ∧ k ≤ k' ∧ Mk B1 B2 w w' := by
  have hB : B1 ≤ w.heap.size := Nat.le_trans hK.1.1 hK.1.2
  have hn1 := hK.2.1.1
  have hn2 := hK.2.2.1
  have H := Lib.hid hK
  have E := Lib.hid (Ext.refl w)
  clear hK
  go_enter Tryz.func15, Tryz.ntmps15
  go_wp2_with fail
  first | refine gen_calls ?_ | refine gen_code ?_ | refine gen_list ?_
  intro w0 hW
  obtain ⟨hb, hR0⟩ := new1 hW
  clear hW
  replace E := Lib.hid (Ext.trans E.out hb)
  clear hb
  have R0 := Lib.hid hR0
  have lR0 := R0.out.lt
  clear hR0
  have c0 := R0.out.cell_of (i := 0) rfl
  have c1 := R0.out.cell_of (i := 1) rfl
  have c2 := R0.out.cell_of (i := 2) rfl
  have c3 := R0.out.cell_of (i := 3) rfl
  have c4 := R0.out.cell_of (i := 4) rfl
  have c5 := R0.out.cell_of (i := 5) rfl
  have c6 := R0.out.cell_of (i := 6) rfl
  go_wp2_with fail
  clear c0 c1 c2 c3 c4 c5 c6
  refine (c_markVerbW (H.out.2.1.mk (Mk.ext E.out hB)) k h0 (by omega)).mono ?_
  rintro e w1 ⟨k1, rfl, hk1, hk2, hm⟩
  have Q := Lib.hid ((Mk.ext E.out hB).trans hm)
  obtain ⟨g, hg, hR⟩ : ∃ g, w.heap.size = g ∧ Row w1 g 50 [.slice A1 n1 c1, .int .i64 q, .int .i64 f.1, .int .i64 f.2, .int .i64 t.1, .int .i64 t.2, .slice A2 n2 c2] := by
    have hr := R0.out
    unfold Row at hr
    refine ⟨_, rfl, ?_⟩
    unfold Row
    exact (hm.block _ lR0 H.out.1.2).trans hr
  have R := Lib.hid hR
  have hz1 : B1 ≤ w1.heap.size := Nat.le_trans hB Q.out.below.size
  clear hm R0 hR
  have c0 := R.out.cell_of (i := 0) rfl
  have c1' := R.out.cell_of (i := 1) rfl
  have c2' := R.out.cell_of (i := 2) rfl
  have c3 := R.out.cell_of (i := 3) rfl
  have c4 := R.out.cell_of (i := 4) rfl
  have c5 := R.out.cell_of (i := 5) rfl
  have c6 := R.out.cell_of (i := 6) rfl
  rw [hg]
  clear hg
  go_wp2_with fail
  refine (c_markPaintW f t (H.out.2.2.mk Q.out) hz1 k1 (by omega) (by omega)).mono ?_
  rintro e w2 ⟨rfl, hm2⟩
  have Q2 := Lib.hid (Q.out.trans hm2)
  clear hm2 c0 c1' c2' c3 c4 c5 c6
  go_wp2
  go_ret
  exact ⟨k1 + 5 * n2, rfl, by omega, Q2.out⟩
theorem FilK.of_flO {B B' : Nat} {w : World} {x : FlD} {us : List Value} (h : flO B w x us) (hB : B' ≤ B) (hz : B' ≤ w.heap.size) (hsm : flSm x) : ∃ b1 b2, us = flC (some ⟨b1, 0, none⟩) x.1.length x.1.length x.2.1 x.2.2.1 x.2.2.2.1 (some ⟨b2, 0, none⟩) x.2.2.2.2.length x.2.2.2.2.length ∧ VbK w (some ⟨b1, 0, none⟩) x.1 ∧ Sts w (some ⟨b2, 0, none⟩) x.2.2.2.2 ∧ FilK B' w.heap.size w (some ⟨b1, 0, none⟩) x.1.length x.1.length (some ⟨b2, 0, none⟩) x.2.2.2.2.length x.2.2.2.2.length := by
  obtain ⟨b1, sp, b2, e, h1, h2, h3, _, _⟩ := flO_rebase hB h
  have hlen : (x.2.2.2.2.flatMap stC).length = x.2.2.2.2.length * 5 := flat_len (enc := stC) (sz := 5) stC_len _
  exact ⟨b1, b2, e, h1.inK, sts_row h3, ⟨hz, Nat.le_refl _⟩, VrbS.of_ovb h1 hsm.1 hsm.2.2.1, NumS.of_row h3 h2 (by omega) (stC_int _) hsm.2.2.2⟩
end Go.Proofs.YtagmnbphbakikaaGreat
