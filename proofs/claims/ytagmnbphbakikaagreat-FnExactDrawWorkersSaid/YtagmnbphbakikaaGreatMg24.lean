/-
  Several texts in one: WorkI, WorkW.
-/
import Derived.Test.YtagmnbphbakikaaGreatWorkQ
import Derived.Test.YtagmnbphbakikaaGreatMg4
import Derived.Test.YtagmnbphbakikaaGreatMg3
import Derived.Test.YtagmnbphbakikaaGreatClips
namespace Go.Proofs.YtagmnbphbakikaaGreat
open Go Go.RowKit Reg
attribute [local go_sem] calmAt calmUpon RegG.calmAt RegG.calmUpon
set_option maxHeartbeats 1000000 in
theorem c_wv1 (g : Nat) (W : Int) (t : Pt) (w : World) (hW : 1 ≤ W ∧ W ≤ 4) (hc : w.cell? ⟨g, 0, none⟩ = some (.int .i64 W)) :
    Calls Tryz.prog 96 #[.agg #[.int .i64 t.1, .int .i64 t.2], .pointer (some ⟨g, 0, none⟩)] w fun e w' => e = .returned (.bool (!trB W t)) ∧ Below w.heap.size w w' := by
  obtain ⟨x, y⟩ := t
  obtain ⟨d1, hd1⟩ : ∃ d, inB x 0 (W - 1) = d := ⟨_, rfl⟩
  obtain ⟨d2, hd2⟩ : ∃ d, inB y 0 (W - 1) = d := ⟨_, rfl⟩
  have Ht : Hid (trB W (x, y) = (d1 && d2)) := Lib.hid (by unfold trB; rw [hd1, hd2])
  rw [Ht.out]
  have Hd1 := Lib.hid hd1
  have Hd2 := Lib.hid hd2
  have hlt := cell_lt hc
  have hne : g ≠ w.heap.size := by dsimp only at hlt; omega
  dsimp only at hlt
  clear hd1 hd2 Ht
  go_enter Tryz.func96, Tryz.ntmps96
  go_wp2_with fail
  refine (c_in x 0 (W - 1) _).mono ?_
  rw [Hd1.out]
  rintro e w' ⟨rfl, rfl⟩
  cases d1
  · go_wp2
    go_ret
    exact ⟨rfl, (by repeat (first | exact Below.refl _ _ | assumption | refine Below.drew ?_ | refine Below.alloc ?_ (by first | exact Nat.le_refl _ | omega | (simp; done) | (simp; omega)) _ | refine Below.setCell ?_ (by first | exact Nat.le_refl _ | omega | (simp; done) | (simp; omega)) _))⟩
  · go_wp2_with fail
    refine (c_in y 0 (W - 1) _).mono ?_
    rw [Hd2.out]
    rintro e w' ⟨rfl, rfl⟩
    cases d2
    · go_wp2
      go_ret
      exact ⟨rfl, (by repeat (first | exact Below.refl _ _ | assumption | refine Below.drew ?_ | refine Below.alloc ?_ (by first | exact Nat.le_refl _ | omega | (simp; done) | (simp; omega)) _ | refine Below.setCell ?_ (by first | exact Nat.le_refl _ | omega | (simp; done) | (simp; omega)) _))⟩
    · go_wp2
      go_ret
      exact ⟨rfl, (by repeat (first | exact Below.refl _ _ | assumption | refine Below.drew ?_ | refine Below.alloc ?_ (by first | exact Nat.le_refl _ | omega | (simp; done) | (simp; omega)) _ | refine Below.setCell ?_ (by first | exact Nat.le_refl _ | omega | (simp; done) | (simp; omega)) _))⟩
set_option maxHeartbeats 1000000 in
theorem c_wvIndex (g : Nat) (W : Int) (A : Option Addr) (cap : Nat) (ts : List Pt) (w : World) (hW : 1 ≤ W ∧ W ≤ 4) (hc : w.cell? ⟨g, 0, none⟩ = some (.int .i64 W)) (h : Pts w A ts) (hl : ts.length ≤ 4611686018427387904) :
    Calls Tryz.prog 137 #[.slice A ts.length cap, .func (.func 96) #[] #[.pointer (some ⟨g, 0, none⟩)]] w fun e w' => ∃ n : Int, e = .returned (.int .i64 n) ∧ (0 ≤ n ↔ ts.all (trB W) = false) ∧ Below w.heap.size w w' := by
  have H := Lib.hid h
  have Hg := Lib.hid hc
  clear h hc
  go_enter Tryz.func137, Tryz.ntmps137
  go_wp2
  go_loopw [5, 8] (fun _ i wr => ∃ k : Nat, k ≤ ts.length ∧ i = .int .i64 k ∧ (ts.take k).all (trB W) = true ∧ Below w.heap.size w wr) (fun _ i _ => ts.length - (intOf i).toNat)
  case atStart => exact ⟨0, Nat.zero_le _, rfl, by simp, Below.refl _ _⟩
  case round =>
    obtain ⟨k, hk, rfl, hal, hbw⟩ := hrel
    have hal' := Lib.hid hal
    have E := Lib.hid hbw
    clear hal hbw
    by_cases hlt : k < ts.length
    · obtain ⟨b, off, hA, _hb, hc⟩ := (H.out.ext ptR_stab E.out).pts (by omega)
      obtain ⟨cx, cy⟩ := hc k hlt
      have Hv := Lib.hid (fun (hv : trB W ts[k] = true) => all_take_succ hal'.out hlt hv)
      have Hv2 := Lib.hid (fun (hv : trB W ts[k] = false) => all_false_of hlt hv)
      have KC := Lib.hid (fun Wd hc => c_wv1 g W ts[k] Wd hW hc)
      clear hc
      generalize ts[k] = t at *
      obtain ⟨d, hd⟩ : ∃ d, trB W t = d := ⟨_, rfl⟩
      rw [hd] at KC Hv Hv2
      clear hd
      subst hA
      have hkI : (k : Int) < (ts.length : Int) := by omega
      go_wp2_with fail
      refine (KC.out _ (Cls.cell E.out Hg.out)).mono ?_
      rintro e w1 ⟨rfl, hb⟩
      replace E := Lib.hid (Ext.trans E.out hb)
      clear hb cx cy
      cases d
      · have Hf := Lib.hid (Hv2.out rfl)
        go_wp2
        go_ret
        exact ⟨k, rfl, by simp [Hf.out], E.out⟩
      · have Hn := Lib.hid (Hv.out rfl)
        go_wp2
        go_roundw
        case rel => exact ⟨k + 1, by omega, by go_num, Hn.out, E.out⟩
        case measure => simp [intOf]; omega
    · have hk' : k = ts.length := by omega
      have hall := Lib.hid (all_of_take hal'.out hk')
      clear hk'
      go_wp2
      go_ret
      exact ⟨-1, rfl, by simp [hall.out], E.out⟩
set_option maxHeartbeats 1000000 in
theorem c_wvContains (g : Nat) (W : Int) (A : Option Addr) (cap : Nat) (ts : List Pt) (w : World) (hW : 1 ≤ W ∧ W ≤ 4) (hc : w.cell? ⟨g, 0, none⟩ = some (.int .i64 W)) (h : Pts w A ts) (hl : ts.length ≤ 4611686018427387904) :
    Calls Tryz.prog 95 #[.slice A ts.length cap, .func (.func 96) #[] #[.pointer (some ⟨g, 0, none⟩)]] w fun e w' => e = .returned (.bool (!ts.all (trB W))) ∧ Below w.heap.size w w' := by
  have K := Lib.hid (c_wvIndex g W A cap ts w hW hc h hl)
  clear h hc
  go_enter Tryz.func95, Tryz.ntmps95
  go_wp2_with fail
  refine K.out.mono ?_
  rintro e w1 ⟨n, rfl, hn, hb1⟩
  have Hn := Lib.hid hn
  clear hn
  go_wp2
  go_ret
  exact ⟨ret_bb (by rw [Bool.eq_iff_iff]; simpa using Hn.out), hb1⟩
set_option maxHeartbeats 1000000 in
theorem c_workValid (n W : Int) (A : Option Addr) (cap : Nat) (ts : List Pt) (w : World) (h : Pts w A ts) (hl : ts.length ≤ 4611686018427387904) :
    Calls Tryz.prog 57 #[.int .i64 n, .int .i64 W, .slice A ts.length cap] w fun e w' => e = .returned (.bool (inB n 0 16 && wvB W ts)) ∧ Below w.heap.size w w' := by
  obtain ⟨d1, hd1⟩ : ∃ d, inB n 0 16 = d := ⟨_, rfl⟩
  obtain ⟨d2, hd2⟩ : ∃ d, inB W 1 4 = d := ⟨_, rfl⟩
  obtain ⟨V, hV⟩ : ∃ V, (inB n 0 16 && wvB W ts) = V := ⟨_, rfl⟩
  rw [hV]
  have HV : Hid (V = (d1 && (d2 && decide (ts.length ≤ 30) && ts.all (trB W)))) := Lib.hid (by rw [← hV, ← hd1, ← hd2]; rfl)
  have Hd1 := Lib.hid hd1
  have Hd2 := Lib.hid hd2
  have H := Lib.hid h
  have E := Lib.hid (Below.refl w.heap.size w)
  clear hd1 hd2 hV h
  go_enter Tryz.func57, Tryz.ntmps57
  go_wp2_with fail
  first | refine gen_calls ?_ | refine gen_code ?_ | refine gen_list ?_
  intro w1 hW
  obtain ⟨hb, hR⟩ := new1 hW
  clear hW
  replace E := Lib.hid (Ext.trans E.out hb)
  replace H := Lib.hid (H.out.ext ptR_stab hb)
  clear hb
  have R := Lib.hid hR
  have lR := R.out.lt
  clear hR
  have r0 := R.out.cell_of (i := 0) rfl
  go_wp2_with fail
  refine (c_in n 0 16 _).mono ?_
  rw [Hd1.out]
  rintro e w' ⟨rfl, rfl⟩
  cases d1
  · go_wp2
    go_ret
    exact ⟨ret_bb (by rw [HV.out]; rfl), E.out⟩
  · go_wp2_with fail
    refine (c_in W 1 4 _).mono ?_
    rw [Hd2.out]
    rintro e w' ⟨rfl, rfl⟩
    cases d2
    · go_wp2
      go_ret
      exact ⟨ret_bb (by rw [HV.out]; rfl), E.out⟩
    · have hW := inB_iff.1 Hd2.out
      by_cases h30 : ts.length ≤ 30
      · have h30' : ((ts.length : Nat) : Int) ≤ 30 := by omega
        have KC := Lib.hid (fun Wd hc hP => c_wvContains w.heap.size W A cap ts Wd hW hc hP hl)
        have HV2 : Hid (V = ts.all (trB W)) := Lib.hid (by rw [HV.out]; simp [h30])
        generalize ts.all (trB W) = d at *
        go_wp2_with fail
        clear r0
        refine (KC.out _ (R.out.cell_of (i := 0) rfl) H.out).mono ?_
        rintro e w2 ⟨rfl, hb⟩
        replace E := Lib.hid (Ext.trans E.out hb)
        replace H := Lib.hid (H.out.ext ptR_stab hb)
        replace R := Lib.hid (R.out.ext hb)
        have lR := R.out.lt
        clear hb
        have r0 := R.out.cell_of (i := 0) rfl
        cases d
        · go_wp2
          go_ret
          exact ⟨ret_bb (by rw [HV2.out]), E.out⟩
        · go_wp2
          go_ret
          exact ⟨ret_bb (by rw [HV2.out]), E.out⟩
      · have h30' : ¬ ((ts.length : Nat) : Int) ≤ 30 := by omega
        go_wp2
        go_ret
        exact ⟨ret_bb (by rw [HV.out]; simp; omega), E.out⟩
end Go.Proofs.YtagmnbphbakikaaGreat
namespace Go.Proofs.YtagmnbphbakikaaGreat
open Go Go.RowKit Reg
attribute [local go_sem] calmAt calmUpon RegG.calmAt RegG.calmUpon
theorem ei_qs : EI Tryz.prog 152 75 (.slice none 0 0) [.slice none 0 0] 24 := ei_mk Tryz.underlying152 (by kernel_rfl) rfl (by decide) (by decide)
theorem NE_NQ : (99 : TypeId) ≠ 75 := by decide
theorem NE_QI : (75 : TypeId) ≠ 3 := by decide
theorem gcls_grown {c : RegG.CW} {a b : World} {row : Option Nat} (h : RegG.Cls c a) (k : a.grownBy b row) (hr : ∀ g, row = some g → c.ok g) : RegG.Cls c b :=
  ⟨Nat.le_trans h.size k.size, fun i hi hn => (k.block i (Nat.lt_of_lt_of_le hi h.size) (fun hh => hn (hr i hh.symm))).trans (h.block i hi hn)⟩
/-- Queues that are rows of their own. -/
structure QsOwn (w : World) (B : Nat) (vs : List Value) (qs : List (List Int)) : Prop where
  len : vs.length = qs.length
  own : ∀ (i : Nat) (h1 : i < vs.length) (h2 : i < qs.length), Has w B 3 1 vs[i] qs[i].length (qs[i].flatMap intC)
  nd : ∀ (i j : Nat) (hi : i < vs.length) (hj : j < vs.length), i ≠ j → vs[i].ownBlock = none ∨ vs[i].ownBlock ≠ vs[j].ownBlock
theorem QsOwn.ext {w w' : World} {B : Nat} {vs : List Value} {qs : List (List Int)} (h : QsOwn w B vs qs) (hx : Ext w w') : QsOwn w' B vs qs := ⟨h.len, fun i h1 h2 => own_ext (h.own i h1 h2) hx, h.nd⟩
theorem QsOwn.row {w : World} {B g i : Nat} {vs : List Value} {qs : List (List Int)} {cs : List Value} (h : QsOwn w B vs qs) (hR : Row w g 75 cs) (u : Value) : QsOwn (w.setCell ⟨g, i, none⟩ u) B vs qs :=
  ⟨h.len, fun j h1 h2 => (h.own j h1 h2).kept (only_set (only_refl w _) i u) (.inr fun hh => ne_block hR (h.own j h1 h2) (Ne.symm NE_QI) hh.symm), h.nd⟩
/-- One queue grows. -/
theorem QsOwn.put {w w' : World} {B r : Nat} {vs : List Value} {qs : List (List Int)} {v' : Value} {xs' : List Int} (h : QsOwn w B vs qs) (hr : r < vs.length) (hv : Has w' B 3 1 v' xs'.length (xs'.flatMap intC))
    (hg : w.grownBy w' vs[r].ownBlock) (hat : v'.ownBlock = vs[r].ownBlock ∨ v'.ownBlock = some w.heap.size) : QsOwn w' B (vs.set r v') (qs.set r xs') := by
  have hl := h.len
  have old : ∀ (i : Nat) (hi : i < vs.length) g, vs[i].ownBlock = some g → g < w.heap.size := fun i hi g hg => ((h.own i hi (by omega)).lt g hg).2
  refine ⟨by simp [hl], fun i h1 h2 => ?_, fun i j hi hj hij => ?_⟩
  · simp only [List.length_set] at h1 h2
    by_cases hir : r = i
    · subst hir; simp only [List.getElem_set_self]; exact hv
    · simp only [List.getElem_set_ne hir]
      exact (h.own i h1 h2).kept hg (h.nd i r h1 hr (Ne.symm hir))
  · simp only [List.length_set] at hi hj
    have key : ∀ (i : Nat) (hi : i < vs.length), i ≠ r → (vs[i].ownBlock = none ∨ vs[i].ownBlock ≠ v'.ownBlock) ∧ (v'.ownBlock = none ∨ v'.ownBlock ≠ vs[i].ownBlock) := by
      intro i hi hne
      rcases hat with ha | ha
      · rw [ha]; exact ⟨h.nd i r hi hr hne, h.nd r i hr hi (Ne.symm hne)⟩
      · rw [ha]
        refine ⟨?_, .inr fun hh => by have := old i hi _ hh.symm; omega⟩
        cases hc : vs[i].ownBlock with
        | none => exact .inl rfl
        | some g => exact .inr fun hh => by injection hh with hh; have := old i hi g hc; omega
    by_cases h1 : r = i
    · subst h1
      rw [List.getElem_set_self, List.getElem_set_ne hij]
      exact (key j hj (Ne.symm hij)).2
    · by_cases h2 : r = j
      · subst h2
        rw [List.getElem_set_self, List.getElem_set_ne h1]
        exact (key i hi (Ne.symm h1)).1
      · rw [List.getElem_set_ne h1, List.getElem_set_ne h2]
        exact h.nd i j hi hj hij
/-- A queue that is read alone. -/
def QR (w : World) (xs : List Int) (v : Value) : Prop := ∃ A cap, v = .slice A xs.length cap ∧ xs.length ≤ cap ∧ Ints w A xs ∧ (∀ a, A = some a → ∃ b off, a = ⟨b, off, none⟩ ∧ ∃ cur fz, w.heap[b]? = some (.cells cur 3 fz))
theorem QR.ext {w w' : World} {xs : List Int} {v : Value} (h : QR w xs v) (hx : Ext w w') : QR w' xs v := by
  obtain ⟨A, cap, h1, h2, h3, h4⟩ := h
  refine ⟨A, cap, h1, h2, h3.ext intR_stab hx, fun a hA => ?_⟩
  obtain ⟨b, off, ha, cur, fz, hc⟩ := h4 a hA
  refine ⟨b, off, ha, cur, fz, ?_⟩
  rw [hx.block b (Array.getElem?_eq_some_iff.1 hc).1]; exact hc
/-- Another block, of another type, is turned. -/
theorem QR.other {w w' : World} {xs : List Int} {v : Value} {row : Option Nat} (h : QR w xs v) (hg : w.grownBy w' row) (hr : ∀ b cur fz, w.heap[b]? = some (.cells cur 3 fz) → some b ≠ row) : QR w' xs v := by
  obtain ⟨A, cap, h1, h2, h3, h4⟩ := h
  refine ⟨A, cap, h1, h2, fun h0 => ?_, fun a hA => ?_⟩
  · obtain ⟨b, off, hA, hk⟩ := h3 h0
    obtain ⟨b', off', ha, cur, fz, hc⟩ := h4 _ hA
    injection ha with e1 e2
    subst e1 e2
    refine ⟨b, off, hA, fun k hk' => ?_⟩
    obtain ⟨us, q1, q2, q3⟩ := hk k hk'
    exact ⟨us, q1, q2, fun j u hu => cell_grown (q3 j u hu) hg (Ne.symm (hr b cur fz hc))⟩
  · obtain ⟨b, off, ha, cur, fz, hc⟩ := h4 a hA
    exact ⟨b, off, ha, cur, fz, (hg.block b (Array.getElem?_eq_some_iff.1 hc).1 (hr b cur fz hc)).trans hc⟩
theorem QR.grown {w w' : World} {xs : List Int} {v : Value} {B e sz n : Nat} {v2 : Value} {cs : List Value} (h : QR w xs v) (ho : Has w B e sz v2 n cs) (he : e ≠ 3) (hg : w.grownBy w' v2.ownBlock) : QR w' xs v :=
  h.other hg fun b cur fz hc hh => by
    obtain ⟨cur', fz', hc'⟩ := own_row ho hh.symm
    rw [hc] at hc'
    injection hc' with hc'
    injection hc' with _ h2
    exact he h2.symm
theorem QR.row {w : World} {g i e : Nat} {xs : List Int} {v : Value} {cs : List Value} (h : QR w xs v) (hR : Row w g e cs) (he : e ≠ 3) (u : Value) : QR (w.setCell ⟨g, i, none⟩ u) xs v :=
  h.other (only_set (only_refl w _) i u) fun b cur fz hc hh => by
    injection hh with hh
    subst hh
    unfold Row at hR
    rw [hc] at hR
    injection hR with hR
    injection hR with _ h2
    exact he h2.symm
theorem QR.init {w : World} {A : Option Addr} {cap n : Nat} {xs : List Int} (h : QR w xs (.slice A n cap)) : QR w xs.dropLast (.slice A (n - 1) cap) := by
  obtain ⟨A', cap', h1, h2, h3, h4⟩ := h
  injection h1 with e1 e2 e3
  subst e1 e2 e3
  refine ⟨A, cap, by simp, by simp; omega, ?_, h4⟩
  rw [List.dropLast_eq_take]
  exact h3.take _
theorem QR.tail {w : World} {A : Option Addr} {cap n : Nat} {xs : List Int} (h : QR w xs (.slice A n cap)) (h0 : 0 < n) : QR w (xs.drop 1) (.slice (subA A cap 1 1) (n - 1) (cap - 1)) := by
  obtain ⟨A', cap', h1, h2, h3, h4⟩ := h
  injection h1 with e1 e2 e3
  subst e1 e2 e3
  refine ⟨subA A cap 1 1, cap - 1, by simp, by simp; omega, ?_, fun a hA => ?_⟩
  · have := h3.sub (cap := cap) (lo := 1) (hi := xs.length) (by omega) (Nat.le_refl _) h2
    rwa [List.take_length] at this
  · unfold subA at hA
    split at hA
    · exact h4 a hA
    · cases A with
      | none => cases hA
      | some a0 =>
        obtain ⟨b, off, ha, cur, fz, hc⟩ := h4 a0 rfl
        subst ha
        simp only [Option.map_some, Option.some.injEq, addr_add] at hA
        exact ⟨b, _, hA.symm, cur, fz, hc⟩
/-- Queues that are read alone. -/
def QsAre (w : World) (vs : List Value) (qs : List (List Int)) : Prop := vs.length = qs.length ∧ ∀ (i : Nat) (h1 : i < vs.length) (h2 : i < qs.length), QR w qs[i] vs[i]
theorem QsAre.ext {w w' : World} {vs : List Value} {qs : List (List Int)} (h : QsAre w vs qs) (hx : Ext w w') : QsAre w' vs qs := ⟨h.1, fun i h1 h2 => (h.2 i h1 h2).ext hx⟩
theorem QsAre.grown {w w' : World} {vs : List Value} {qs : List (List Int)} {B e sz n : Nat} {v2 : Value} {cs : List Value} (h : QsAre w vs qs) (ho : Has w B e sz v2 n cs) (he : e ≠ 3) (hg : w.grownBy w' v2.ownBlock) : QsAre w' vs qs :=
  ⟨h.1, fun i h1 h2 => (h.2 i h1 h2).grown ho he hg⟩
theorem QsAre.row {w : World} {g i e : Nat} {vs : List Value} {qs : List (List Int)} {cs : List Value} (h : QsAre w vs qs) (hR : Row w g e cs) (he : e ≠ 3) (u : Value) : QsAre (w.setCell ⟨g, i, none⟩ u) vs qs :=
  ⟨h.1, fun j h1 h2 => (h.2 j h1 h2).row hR he u⟩
theorem QsAre.set {w : World} {vs : List Value} {qs : List (List Int)} (h : QsAre w vs qs) (r : Nat) {v : Value} {xs : List Int} (hv : QR w xs v) : QsAre w (vs.set r v) (qs.set r xs) := by
  refine ⟨by simp [h.1], fun i h1 h2 => ?_⟩
  simp only [List.length_set] at h1 h2
  by_cases hir : r = i
  · subst hir; simp; exact hv
  · rw [List.getElem_set_ne hir, List.getElem_set_ne hir]; exact h.2 i h1 h2
theorem QsOwn.are {w : World} {B : Nat} {vs : List Value} {qs : List (List Int)} (h : QsOwn w B vs qs) : QsAre w vs qs := ⟨h.len, fun i h1 h2 => by
  have ho := h.own i h1 h2
  obtain ⟨A, cap, hv⟩ := own_form ho
  rw [hv] at ho ⊢
  refine ⟨A, cap, rfl, ho.slok.2.1, own_in (R := intR) (enc := intC) intC_len' (by decide) ho (fun _ => rfl), fun a hA => ?_⟩
  subst hA
  rcases ho.2 with ⟨hh, _⟩ | ⟨g', cap', cur, hh, _, h3, _⟩
  · cases hh
  · injection hh with e1
    injection e1 with e1
    subst e1
    exact ⟨g', 0, rfl, cur, (0, 0), h3⟩⟩
set_option maxRecDepth 100000 in
set_option maxHeartbeats 4000000 in
theorem c_work (n W : Nat) (A : Option Addr) (cap : Nat) (sc : List Pt) (w : World) (h : Pts w A sc) (hn : n ≤ 16) (h1 : 0 < W) (h4 : W ≤ 4) (hl : sc.length ≤ 30) (hs : ScOk W sc) :
    Calls Tryz.prog 60 #[.int .i64 n, .int .i64 W, .slice A sc.length cap] w fun e w' => RetDn w (workL W n sc) e w' := by
  have H := Lib.hid h
  have Hs := Lib.hid hs
  have hmk : ∀ Wd : World, (Instr.makeSlice 152 (.int .i64 (W : Int)) (.int .i64 (W : Int))).run Tryz.prog Wd = .ok (.slice (some ⟨Wd.heap.size, 0, none⟩) W W) (Wd.alloc (.cells (List.replicate W (Value.slice none 0 0)).toArray 75)) := fun Wd => by
    have := run_make_fill ei_qs (fun _ : Unit => [Value.slice none 0 0]) (List.replicate W ()) (by simp; omega) Wd
    rw [fillC_zero] at this
    have e : (List.replicate (List.replicate W ()).length [Value.slice none 0 0]).flatten = List.replicate W (Value.slice none 0 0) := by simp
    rw [e] at this
    simpa using this
  have E := Lib.hid (Below.refl w.heap.size w)
  clear h hs
  go_enter Tryz.func60, Tryz.ntmps60
  go_wp2_with fail
  first | refine gen_calls ?_ | refine gen_code ?_ | refine gen_list ?_
  intro w1 hW
  obtain ⟨hb, hX⟩ := new1 hW
  clear hW
  replace E := Lib.hid (Ext.trans E.out hb)
  clear hb
  have X := Lib.hid hX
  have lX := X.out.lt
  clear hX
  clear hmk
  have Q : Hid (QsOwn w1 w.heap.size (List.replicate W (Value.slice none 0 0)) (qs0 W 0)) := Lib.hid (by
    rw [qs0_zero]
    refine ⟨by simp, fun i h1 h2 => ?_, fun i j hi hj hij => .inl (by simp [Value.ownBlock])⟩
    simp only [List.getElem_replicate]
    exact own_nil _ _ _ _)
  generalize List.replicate W (Value.slice none 0 0) = vs at *
  go_wp2_with fail
  go_loopw [8, 17] (fun _ t wr => ∃ (k : Nat) (vs : List Value), k ≤ n ∧ t = .int .i64 k ∧ Row wr w.heap.size 75 vs ∧ QsOwn wr w.heap.size vs (qs0 W k) ∧ Below w.heap.size w wr) (fun _ t _ => n - (intOf t).toNat)
  case atStart => exact ⟨0, vs, Nat.zero_le _, rfl, X.out, Q.out, E.out⟩
  case round =>
    obtain ⟨k, vs, hk, rfl, hx, hq, hbw⟩ := hrel
    clear X Q E
    have X := Lib.hid hx
    have Q := Lib.hid hq
    have E := Lib.hid hbw
    have lX := X.out.lt
    have hzr := hbw.size
    have hvl : vs.length = W := by rw [hq.len, qs0_len]
    have Hvl := Lib.hid hvl
    clear hx hq hbw
    by_cases hlt : k < n
    · have hltI : decide ((k : Int) < (n : Int)) = true := by simp; omega
      obtain ⟨r, hr⟩ : ∃ r, r = k % W := ⟨_, rfl⟩
      have hrW : r < W := by rw [hr]; exact Nat.mod_lt _ h1
      have hm : Int.tmod (k : Int) (W : Int) = (r : Int) := by rw [hr]; exact tmod_nat k W
      have hW0 : ¬ W = 0 := by omega
      have hwm : IntKind.i64.wrap (r : Int) = (r : Int) := IntWalk.i64_in _ (by omega)
      have Hset := Lib.hid (qs0_succ (W := W) (n := k))
      rw [← hr] at Hset
      obtain ⟨v, hv⟩ : ∃ v, vs[r]? = some v := ⟨_, List.getElem?_eq_getElem (by omega)⟩
      have Hv := Lib.hid hv
      have hov : Has wr w.heap.size 3 1 v (qOf W k r).length ((qOf W k r).flatMap intC) := by
        have := Q.out.own r (by omega) (by rw [qs0_len]; exact hrW)
        rw [qs0_get hrW, (List.getElem?_eq_some_iff.1 hv).2] at this
        exact this
      have hxl : (qOf W k r).length ≤ 16 := by have := qOf_len W k r; omega
      have cx := X.out.cell_of (i := r) hv
      have fx := X.out.frozen r
      have Ov := Lib.hid hov
      obtain ⟨Av, capv, hvf⟩ := own_form hov
      have hr0 : (0 : Int) ≤ (r : Int) := by omega
      have hrI : (r : Int) < (W : Int) := by omega
      clear hr hov hv hvl
      generalize qOf W k r = xs at *
      subst hvf
      go_wp2_with fail
      have hnX : ¬ (Value.slice Av xs.length capv).ownBlock = some w.heap.size := fun hh => ne_block X.out Ov.out (Ne.symm NE_QI) hh.symm
      refine RegG.wp_region_calm (fun i => (Value.slice Av xs.length capv).ownBlock = some i) [0,1,2,3,4,5,6,7,8,9,10] [11,12,13,14] (by kernel_rfl) (by kernel_rfl) ?_
      iterate 11 ((refine RegG.calm_yes rfl rfl (fun w' hC => (by have cx := hC.cell cx hnX; go_simp; rfl)) (fun K hK => ?_); go_simp; refine hK _ ?_; clear hK K))
      refine RegG.calm_nil (fun wa hxa => ?_)
      refine RegG.late_keep rfl rfl ((RegG.Cls.refl _).ext hxa) (fun wb hxb hCb K hK => ?_)
      have Eb : Ext wr wb := Ext.trans (ext_cls hxa) hxb
      go_simp
      refine hK _ _ (hCb.ext (ext_alloc _ _)) (fun hC1 => ?_)
      clear hK K cx fx
      refine RegG.late_keep rfl rfl hC1 (fun wd hxd hCd K hK => ?_)
      have Ed : Ext wr wd := Ext.trans (Ext.trans Eb (ext_alloc _ _)) hxd
      have hsz : w.heap.size ≤ wd.heap.size := by have h1 := Ed.size; omega
      refine wp_app (base := w.heap.size) ei_int (.tmp 29) (.tmp 31) rfl rfl (own_ext Ov.out Ed) rfl ((src_new wb _ [_] (m := 1) rfl (by intro u hu; simp only [List.mem_cons, List.not_mem_nil, or_false] at hu; subst hu; rfl)).ext hxd) (by omega) hsz ?_
      intro V5 we hown hg hat
      obtain ⟨A5, cap5, rfl⟩ := own_form hown
      refine hK _ _ (gcls_grown hCd hg (fun g hg => hg)) (fun hCe => ?_)
      clear hK K
      have hve := (List.getElem?_eq_some_iff.1 Hv.out).2
      have hown' : Has we w.heap.size 3 1 (.slice A5 (xs.length + 1) cap5) (xs ++ [(k : Int)]).length ((xs ++ [(k : Int)]).flatMap intC) := by
        rw [List.length_append, List.flatMap_append]; exact hown
      have hg' : wd.grownBy we (Value.slice Av xs.length capv).ownBlock := hg
      have hat' : (Value.slice A5 (xs.length + 1) cap5).ownBlock = (Value.slice Av xs.length capv).ownBlock ∨ (Value.slice A5 (xs.length + 1) cap5).ownBlock = some wd.heap.size := hat
      have Q5 := (Q.out.ext Ed).put (r := r) (v' := .slice A5 (xs.length + 1) cap5) (xs' := xs ++ [(k : Int)]) (by have := Hvl.out; omega) hown' (by rw [hve]; exact hg') (by rw [hve]; exact hat')
      rw [← Hset.out] at Q5
      have X5 := (X.out.ext Ed).grownNe (own_ext Ov.out Ed) (Ne.symm NE_QI) hg'
      have E5 := own_below (Ext.trans E.out Ed) (own_ext Ov.out Ed) hg' hsz
      clear Q X E Ov hg hat hg' hat' hown hown' Hset hnX
      have Q := Lib.hid Q5
      have X := Lib.hid X5
      have E := Lib.hid E5
      clear Q5 X5 E5 hve Ed hsz hxd hCd hC1 hCb hxa hxb Eb hCe
      refine RegG.late_free (by kernel_rfl) rfl rfl (fun wf hxf K hK => ?_)
      go_simp
      refine hK _ _ ?_
      clear hK K
      refine RegG.late_free (by kernel_rfl) rfl rfl (fun wg hxg K hK => ?_)
      have Efg := Ext.trans hxf hxg
      replace Q := Lib.hid (Q.out.ext Efg)
      replace X := Lib.hid (X.out.ext Efg)
      replace E := Lib.hid (Ext.trans E.out Efg)
      clear hxf hxg Efg
      have cx := X.out.cell_of (i := r) Hv.out
      have fx := X.out.frozen r
      go_simp
      refine hK _ _ ?_
      clear hK K cx fx
      refine RegG.late_nil (fun wh hxh => ?_)
      have X6 := (X.out.set_ r (.slice A5 (xs.length + 1) cap5)).ext hxh
      have Q6 := (Q.out.row X.out (.slice A5 (xs.length + 1) cap5) (i := r)).ext hxh
      have E6 := Ext.trans (E.out.setCell (p := ⟨w.heap.size, r, none⟩) (by exact Nat.le_refl _) (.slice A5 (xs.length + 1) cap5)) hxh
      clear X Q E hxh
      have Q := Lib.hid Q6
      have X := Lib.hid X6
      have E := Lib.hid E6
      clear X6 Q6 E6
      go_wp2
      go_roundw
      case rel => exact ⟨k + 1, _, by omega, by go_num, X.out, Q.out, E.out⟩
      case measure => simp [intOf]; omega
    · have hltI : decide ((k : Int) < (n : Int)) = false := by simp; omega
      obtain rfl : n = k := by omega
      have QA := Lib.hid Q.out.are
      clear Q hvl
      obtain ⟨va0, hva0⟩ : ∃ v : Nat, v = 0 := ⟨0, rfl⟩
      clear hva0 va0
      have hzn : w.heap.size ≤ wr.heap.size := E.out.size
      go_wp2_with fail
      go_loopw [9, 10, 11, 12, 13] (fun o i _ _ _ wr => ∃ (k : Nat) (A1 : Option Addr) (cap1 : Nat) (out : List Pt) (vs : List Value), k ≤ 94 ∧ i = .int .i64 k ∧ o = .slice A1 out.length cap1 ∧ out = (wSt W n sc k).2 ∧ Has wr w.heap.size 99 2 (.slice A1 out.length cap1) out.length (out.flatMap ptC) ∧ Row wr w.heap.size 75 vs ∧ QsAre wr vs (wSt W n sc k).1 ∧ Below w.heap.size w wr) (fun _ i _ _ _ _ => 94 - (intOf i).toNat)
      case atStart => exact ⟨0, none, 0, [], vs, Nat.zero_le _, rfl, rfl, rfl, own_nil _ _ _ _, X.out, QA.out, E.out⟩
      case round =>
        clear X QA E hzn hzr lX Hvl
        obtain ⟨k, A1, cap1, out, vs, hk, rfl, rfl, hout, ho, hx, hq, hbw⟩ := hrel
        have O := Lib.hid ho
        have X := Lib.hid hx
        have QA := Lib.hid hq
        have E := Lib.hid hbw
        have hzr : w.heap.size ≤ wr.heap.size := hbw.size
        have lX := X.out.lt
        have hol : out.length ≤ n := by rw [hout]; exact wSt_le h1 Hs.out k
        have Hend := Lib.hid (fun (h : ¬ out.length < n) => wSt_end h1 h4 hn Hs.out hl hk (by rw [← hout]; exact h))
        have hmore := fun (h : out.length < n) => wSt_more (i := k) h1 h4 hn Hs.out hl (by rw [← hout]; exact h)
        have hvl : vs.length = W := by rw [hq.1, wSt_len]
        have Hout := Lib.hid hout
        have Hvl := Lib.hid hvl
        rw [← hout] at Hend
        clear ho hx hq hbw hout hvl
        by_cases hlt : out.length < n
        · have hltI : decide ((out.length : Int) < (n : Int)) = true := by simp; omega
          have hk94 := hmore hlt
          clear hmore
          obtain ⟨hta, htb⟩ := turnAt_lt h1 Hs.out k
          have hst : wSt W n sc (k + 1) = stepW (wSt W n sc k) (turnAt W sc k) := rfl
          have Hst : Hid (wSt W n sc (k + 1) = stepW ((wSt W n sc k).1, out) (turnAt W sc k)) := Lib.hid (by rw [hst, Hout.out])
          have Hta := Lib.hid (show turnAt W sc k = (match sc[k]? with | some t => (t.1.toNat, t.2.toNat) | none => (k % W, (k + 1) % W)) from rfl)
          have Hlen := Lib.hid (wSt_len (W := W) (n := n) (sc := sc) k)
          have Htot : Hid ((wSt W n sc k).1.flatten.length ≤ 16) := Lib.hid (by have := wSt_total h1 Hs.out (n := n) k; omega)
          clear hst
          generalize turnAt W sc k = tt at *
          generalize (wSt W n sc k).1 = qs at *
          obtain ⟨a, b⟩ := tt
          dsimp only at hta htb Hst
          have hm1 : Int.tmod (k : Int) (W : Int) = ((k % W : Nat) : Int) := tmod_nat k W
          have hm2 : Int.tmod ((k : Int) + 1) (W : Int) = (((k + 1) % W : Nat) : Int) := tmod_nat1 k W 1
          have hW0 : ¬ W = 0 := by omega
          have hwr : IntKind.i64.wrap ((k : Int) + 1) = (k : Int) + 1 := IntWalk.i64_in _ (by omega)
          have hwm1 : IntKind.i64.wrap ((k % W : Nat) : Int) = ((k % W : Nat) : Int) := IntWalk.i64_in _ (by have := Nat.mod_lt k h1; omega)
          have hwm2 : IntKind.i64.wrap (((k + 1) % W : Nat) : Int) = (((k + 1) % W : Nat) : Int) := IntWalk.i64_in _ (by have := Nat.mod_lt (k + 1) h1; omega)
          obtain ⟨m1, hm1'⟩ : ∃ m1, m1 = k % W := ⟨_, rfl⟩
          obtain ⟨m2, hm2'⟩ : ∃ m2, m2 = (k + 1) % W := ⟨_, rfl⟩
          rw [← hm1'] at hm1 hwm1 Hta
          rw [← hm2'] at hm2 hwm2 Hta
          clear hm1' hm2'
          go_wp2_with fail
          refine wp_region_calm [0,1,2,3,4,5,6,7] [8,9] (by kernel_rfl) (by kernel_rfl) ?_
          (refine calm_yes rfl rfl (fun w' hC => (by go_simp; rfl)) (fun K hK => ?_); go_simp; refine hK _ ?_; clear hK K)
          (refine calm_yes rfl rfl (fun w' hC => (by go_simp; rfl)) (fun K hK => ?_); go_simp; refine hK _ ?_; clear hK K)
          (refine calm_yes rfl rfl (fun w' hC => (by go_simp; rfl)) (fun K hK => ?_); go_simp; refine hK _ ?_; clear hK K)
          (refine calm_yes rfl rfl (fun w' hC => (by go_simp; rfl)) (fun K hK => ?_); go_simp; refine hK _ ?_; clear hK K)
          (refine calm_yes rfl rfl (fun w' hC => (by go_simp; rfl)) (fun K hK => ?_); go_simp; refine hK _ ?_; clear hK K)
          (refine calm_yes rfl rfl (fun w' hC => (by go_simp; rfl)) (fun K hK => ?_); go_simp; refine hK _ ?_; clear hK K)
          (refine calm_yes rfl rfl (fun w' hC => (by go_simp; rfl)) (fun K hK => ?_); go_simp; refine hK _ ?_; clear hK K)
          (refine calm_yes rfl rfl (fun w' hC => (by go_simp; rfl)) (fun K hK => ?_); go_simp; refine hK _ ?_; clear hK K)
          refine calm_nil (fun wa hCa => ?_)
          refine late_keep rfl rfl hCa (fun wbw2 hxb hCb K hK => ?_)
          go_simp
          refine hK _ _ (Below.alloc hCb hCb.size _) (fun _ => ?_)
          clear hK K
          refine late_free (by kernel_rfl) rfl rfl (fun wd hxd K hK => ?_)
          have hZ := (Row.new wbw2 101 [.int .i64 0, .int .i64 0]).ext hxd
          have Eb := Ext.trans (ext_cls hCa) hxb
          have hlbw2 := Eb.size
          have e0 := hZ.cell_of (i := 0) rfl
          have ze0 := hZ.frozen 0
          have e1 := hZ.cell_of (i := 1) rfl
          have ze1 := hZ.frozen 1
          go_simp
          refine hK _ _ ?_
          clear hK K e0 ze0 e1 ze1
          refine late_nil (fun w2 hxz => ?_)
          have hR : Row w2 wbw2.heap.size 101 [.int .i64 m1, .int .i64 m2] := ((hZ.set_ 0 _).set_ 1 _).ext hxz
          have EN := Ext.trans (((Ext.trans (Ext.trans Eb (ext_alloc _ _)) hxd).setCell (p := ⟨wbw2.heap.size, 0, none⟩) (by simp; omega) _).setCell (p := ⟨wbw2.heap.size, 1, none⟩) (by simp; omega) _) hxz
          replace E := Lib.hid (Ext.trans E.out EN)
          replace O := Lib.hid (own_ext O.out EN)
          replace X := Lib.hid (X.out.ext EN)
          have lX := X.out.lt
          replace QA := Lib.hid (QA.out.ext EN)
          have T := Lib.hid hR
          have lT := T.out.lt
          clear hR EN hZ Eb hCa hCb hxb hxd hxz
          have htb0 : w.heap.size ≤ wbw2.heap.size := by omega
          have hXT : w.heap.size ≠ wbw2.heap.size := by omega
          by_cases hks : k < sc.length
          · have hkd : decide ((k : Int) < (sc.length : Int)) = true := by simp; omega
            have hkI : (k : Int) < (sc.length : Int) := by omega
            obtain ⟨bs, off, hA, _hb, hc⟩ := (H.out.ext ptR_stab E.out).pts (by omega)
            obtain ⟨cx, cy⟩ := hc k hks
            have hab : a = sc[k].1.toNat ∧ b = sc[k].2.toNat := by
              have := Hta.out
              rw [List.getElem?_eq_getElem hks] at this
              dsimp only at this
              injection this with e1 e2
              exact ⟨e1, e2⟩
            have hsk := Hs.out sc[k] (List.getElem_mem hks)
            have hx : sc[k].1 = (a : Int) := by omega
            have hy : sc[k].2 = (b : Int) := by omega
            rw [hx] at cx
            rw [hy] at cy
            have Cx := Lib.hid cx
            have Cy := Lib.hid cy
            clear hc hab hsk hx hy cx cy hm1 hm2 hwr hwm1 hwm2 hW0
            subst hA
            have cCx := Cx.out
            have cCy := Cy.out
            have t0 := T.out.cell_of (i := 0) rfl
            have zt0 := T.out.frozen 0
            have t1 := T.out.cell_of (i := 1) rfl
            have zt1 := T.out.frozen 1
            go_wp2_with fail
            refine gen_code ?_
            intro w3 hw3
            have T3 := (T.out.set_ 0 (.int .i64 (a : Int))).set_ 1 (.int .i64 (b : Int))
            have E3 := (E.out.setCell (p := ⟨wbw2.heap.size, 0, none⟩) (by exact htb0) (.int .i64 (a : Int))).setCell (p := ⟨wbw2.heap.size, 1, none⟩) (by exact htb0) (.int .i64 (b : Int))
            have O3 := has_row2 (.int .i64 (a : Int)) (.int .i64 (b : Int)) O.out T.out NE_TN
            have X3 := (X.out.far (p := ⟨wbw2.heap.size, 0, none⟩) hXT (.int .i64 (a : Int))).far (p := ⟨wbw2.heap.size, 1, none⟩) hXT (.int .i64 (b : Int))
            have QA3 := (QA.out.row T.out NE_TI (.int .i64 (a : Int)) (i := 0)).row (T.out.set_ 0 _) NE_TI (.int .i64 (b : Int)) (i := 1)
            rw [← hw3] at T3 E3 O3 X3 QA3
            clear cCx cCy t0 zt0 t1 zt1
            clear hw3 Cx Cy T E O X QA
            have T : Hid (Row w3 wbw2.heap.size 101 [.int .i64 (a : Int), .int .i64 (b : Int)]) := Lib.hid T3
            have E := Lib.hid E3
            have O := Lib.hid O3
            have X := Lib.hid X3
            have QA := Lib.hid QA3
            have lX := X.out.lt
            have lT := T.out.lt
            clear T3 E3 O3 X3 QA3
            obtain ⟨Wz, hWz⟩ : ∃ Wz : World, Wz = w3 := ⟨_, rfl⟩
            subst hWz
            have hal : (a : Int) < (W : Int) := by omega
            have hbl : (b : Int) < (W : Int) := by omega
            have ha0 : (0 : Int) ≤ (a : Int) := by omega
            have hb0 : (0 : Int) ≤ (b : Int) := by omega
            obtain ⟨Aa, capa, hva, hlea, hIa, _⟩ := QA.out.2 a (by have := Hvl.out; omega) (by have := Hlen.out; omega)
            obtain ⟨Ab, capb, hvb, hleb, hIb, _⟩ := QA.out.2 b (by have := Hvl.out; omega) (by have := Hlen.out; omega)
            have Va : Hid (vs[a]? = some (.slice Aa (qs[a]'(by have := Hlen.out; omega)).length capa)) := Lib.hid (by rw [← hva]; exact List.getElem?_eq_getElem _)
            have Vb : Hid (vs[b]? = some (.slice Ab (qs[b]'(by have := Hlen.out; omega)).length capb)) := Lib.hid (by rw [← hvb]; exact List.getElem?_eq_getElem _)
            have Ga : Hid (qs.getD a [] = qs[a]'(by have := Hlen.out; omega)) := Lib.hid (getD_of (by have := Hlen.out; omega))
            have Gb : Hid (qs.getD b [] = qs[b]'(by have := Hlen.out; omega)) := Lib.hid (getD_of (by have := Hlen.out; omega))
            have La : (qs[a]'(by have := Hlen.out; omega)).length ≤ 16 := by
              have h2 : (qs[a]'(by have := Hlen.out; omega)).length ≤ qs.flatten.length := (List.sublist_flatten_of_mem (List.getElem_mem _)).length_le
              have := Htot.out
              omega
            have Lb : (qs[b]'(by have := Hlen.out; omega)).length ≤ 16 := by
              have h2 : (qs[b]'(by have := Hlen.out; omega)).length ≤ qs.flatten.length := (List.sublist_flatten_of_mem (List.getElem_mem _)).length_le
              have := Htot.out
              omega
            have Ia := Lib.hid hIa
            have Ib := Lib.hid hIb
            have Qa := Lib.hid (QA.out.2 a (by have := Hvl.out; omega) (by have := Hlen.out; omega))
            have Qb := Lib.hid (QA.out.2 b (by have := Hvl.out; omega) (by have := Hlen.out; omega))
            rw [hva] at Qa
            rw [hvb] at Qb
            clear hva hvb hIa hIb
            generalize hqa : qs[a]'(by have := Hlen.out; omega) = xa at *
            generalize hqb : qs[b]'(by have := Hlen.out; omega) = xb at *
            clear hqa hqb
            have t0 := T.out.cell_of (i := 0) rfl
            have t1 := T.out.cell_of (i := 1) rfl
            have cxa := X.out.cell_of (i := a) Va.out
            have cxb := X.out.cell_of (i := b) Vb.out
            refine wp_region_calm [0,1,2,3,4,5,6,7,8,9,10,11] [] (by kernel_rfl) (by kernel_rfl) ?_
            (refine calm_yes rfl rfl (fun w' hC => (by have t0 := hC.cell t0; have t1 := hC.cell t1; have cxa := hC.cell cxa; have cxb := hC.cell cxb; go_simp; rfl)) (fun K hK => ?_); go_simp; refine hK _ ?_; clear hK K)
            (refine calm_yes rfl rfl (fun w' hC => (by have t0 := hC.cell t0; have t1 := hC.cell t1; have cxa := hC.cell cxa; have cxb := hC.cell cxb; go_simp; rfl)) (fun K hK => ?_); go_simp; refine hK _ ?_; clear hK K)
            (refine calm_yes rfl rfl (fun w' hC => (by have t0 := hC.cell t0; have t1 := hC.cell t1; have cxa := hC.cell cxa; have cxb := hC.cell cxb; go_simp; rfl)) (fun K hK => ?_); go_simp; refine hK _ ?_; clear hK K)
            (refine calm_yes rfl rfl (fun w' hC => (by have t0 := hC.cell t0; have t1 := hC.cell t1; have cxa := hC.cell cxa; have cxb := hC.cell cxb; go_simp; rfl)) (fun K hK => ?_); go_simp; refine hK _ ?_; clear hK K)
            (refine calm_yes rfl rfl (fun w' hC => (by have t0 := hC.cell t0; have t1 := hC.cell t1; have cxa := hC.cell cxa; have cxb := hC.cell cxb; go_simp; rfl)) (fun K hK => ?_); go_simp; refine hK _ ?_; clear hK K)
            (refine calm_yes rfl rfl (fun w' hC => (by have t0 := hC.cell t0; have t1 := hC.cell t1; have cxa := hC.cell cxa; have cxb := hC.cell cxb; go_simp; rfl)) (fun K hK => ?_); go_simp; refine hK _ ?_; clear hK K)
            (refine calm_yes rfl rfl (fun w' hC => (by have t0 := hC.cell t0; have t1 := hC.cell t1; have cxa := hC.cell cxa; have cxb := hC.cell cxb; go_simp; rfl)) (fun K hK => ?_); go_simp; refine hK _ ?_; clear hK K)
            (refine calm_yes rfl rfl (fun w' hC => (by have t0 := hC.cell t0; have t1 := hC.cell t1; have cxa := hC.cell cxa; have cxb := hC.cell cxb; go_simp; rfl)) (fun K hK => ?_); go_simp; refine hK _ ?_; clear hK K)
            (refine calm_yes rfl rfl (fun w' hC => (by have t0 := hC.cell t0; have t1 := hC.cell t1; have cxa := hC.cell cxa; have cxb := hC.cell cxb; go_simp; rfl)) (fun K hK => ?_); go_simp; refine hK _ ?_; clear hK K)
            (refine calm_yes rfl rfl (fun w' hC => (by have t0 := hC.cell t0; have t1 := hC.cell t1; have cxa := hC.cell cxa; have cxb := hC.cell cxb; go_simp; rfl)) (fun K hK => ?_); go_simp; refine hK _ ?_; clear hK K)
            (refine calm_yes rfl rfl (fun w' hC => (by have t0 := hC.cell t0; have t1 := hC.cell t1; have cxa := hC.cell cxa; have cxb := hC.cell cxb; go_simp; rfl)) (fun K hK => ?_); go_simp; refine hK _ ?_; clear hK K)
            (refine calm_yes rfl rfl (fun w' hC => (by have t0 := hC.cell t0; have t1 := hC.cell t1; have cxa := hC.cell cxa; have cxb := hC.cell cxb; go_simp; rfl)) (fun K hK => ?_); go_simp; refine hK _ ?_; clear hK K)
            refine calm_done (fun w6 hb => ?_)
            clear t0 t1 cxa cxb
            replace E := Lib.hid (Ext.trans E.out hb)
            replace O := Lib.hid (own_ext O.out hb)
            replace X := Lib.hid (X.out.ext hb)
            have lX := X.out.lt
            replace QA := Lib.hid (QA.out.ext hb)
            replace T := Lib.hid (T.out.ext hb)
            have lT := T.out.lt
            replace Ia := Lib.hid (Ia.out.ext intR_stab hb)
            replace Ib := Lib.hid (Ib.out.ext intR_stab hb)
            replace Qa := Lib.hid (Qa.out.ext hb)
            replace Qb := Lib.hid (Qb.out.ext hb)
            clear hb
            have t0 := T.out.cell_of (i := 0) rfl
            have t1 := T.out.cell_of (i := 1) rfl
            by_cases hna : 0 < xa.length
            · have hnad : decide ((0 : Int) < (xa.length : Int)) = true := decide_eq_true (by omega)
              obtain ⟨bq, off, rfl, hbq, hc⟩ := Ia.out.ints hna
              obtain ⟨pn, hpn⟩ : ∃ pn, xa.length = pn + 1 := ⟨xa.length - 1, by omega⟩
              have cv := hc pn (by omega)
              have hlast : xa[pn]'(by omega) = xa.getLastD 0 := by
                have hh : xa[pn]? = xa[xa.length - 1]? := by rw [show pn = xa.length - 1 by omega]
                rw [List.getElem?_eq_getElem (by omega)] at hh
                rw [List.getLastD_eq_getLast?, List.getLast?_eq_getElem?, ← hh]; rfl
              rw [hlast] at cv
              have Hn : Hid (wSt W n sc (k + 1) = (qs.set a xa.dropLast, out ++ [((a : Int), xa.getLastD 0)])) := Lib.hid (by
                rw [Hst.out]; unfold stepW; dsimp only; rw [Ga.out, if_pos hna])
              obtain ⟨tl, htl⟩ : ∃ tl, tl = xa.getLastD 0 := ⟨_, rfl⟩
              rw [← htl] at cv Hn
              have hp1 : (xa.length : Int) - 1 = (pn : Int) := by omega
              have hp2 : IntKind.i64.wrap ((xa.length : Int) - 1) = (xa.length : Int) - 1 := IntWalk.i64_in _ (by omega)
              have hp5 : IntKind.i64.wrap (pn : Int) = (pn : Int) := IntWalk.i64_in _ (by omega)
              have hp3 : (0 : Int) ≤ (pn : Int) := by omega
              have hp4 : (pn : Int) < (xa.length : Int) := by omega
              have hsl : ∀ Wd, (Instr.slice 75 (.slice (some ⟨bq, off, none⟩) xa.length capa) none (some (.int .i64 (pn : Int))) none).run Tryz.prog Wd = .ok (.slice (some ⟨bq, off, none⟩) pn capa) Wd := fun Wd => run_slice_hi ei_int _ _ _ pn _ rfl (by omega) Wd
              have Hini : Hid (xa.length - 1 = pn) := Lib.hid (by omega)
              clear hc hlast htl Hst Ga Gb hpn
              have Cv := Lib.hid cv
              clear t0 t1
              have t0 := T.out.cell_of (i := 0) rfl
              go_wp2_with fail
              have hz6 : w.heap.size ≤ w6.heap.size := by omega
              refine wp_region_calm [0,1,2,3,4,5,6,7,8,9] [10,11,12] (by kernel_rfl) (by kernel_rfl) ?_
              (refine calm_yes rfl rfl (fun w' hC => (by have t0 := hC.cell t0; have cv := hC.cell cv; go_simp; rfl)) (fun K hK => ?_); go_simp; refine hK _ ?_; clear hK K)
              (refine calm_yes rfl rfl (fun w' hC => (by have t0 := hC.cell t0; have cv := hC.cell cv; go_simp; rfl)) (fun K hK => ?_); go_simp; refine hK _ ?_; clear hK K)
              (refine calm_yes rfl rfl (fun w' hC => (by have t0 := hC.cell t0; have cv := hC.cell cv; go_simp; rfl)) (fun K hK => ?_); go_simp; refine hK _ ?_; clear hK K)
              (refine calm_yes rfl rfl (fun w' hC => (by have t0 := hC.cell t0; have cv := hC.cell cv; go_simp; rfl)) (fun K hK => ?_); go_simp; refine hK _ ?_; clear hK K)
              (refine calm_yes rfl rfl (fun w' hC => (by have t0 := hC.cell t0; have cv := hC.cell cv; go_simp; rfl)) (fun K hK => ?_); go_simp; refine hK _ ?_; clear hK K)
              (refine calm_yes rfl rfl (fun w' hC => (by have t0 := hC.cell t0; have cv := hC.cell cv; go_simp; rfl)) (fun K hK => ?_); go_simp; refine hK _ ?_; clear hK K)
              (refine calm_yes rfl rfl (fun w' hC => (by have t0 := hC.cell t0; have cv := hC.cell cv; go_simp; rfl)) (fun K hK => ?_); go_simp; refine hK _ ?_; clear hK K)
              (refine calm_yes rfl rfl (fun w' hC => (by have t0 := hC.cell t0; have cv := hC.cell cv; go_simp; rfl)) (fun K hK => ?_); go_simp; refine hK _ ?_; clear hK K)
              (refine calm_yes rfl rfl (fun w' hC => (by have t0 := hC.cell t0; have cv := hC.cell cv; go_simp; rfl)) (fun K hK => ?_); go_simp; refine hK _ ?_; clear hK K)
              (refine calm_yes rfl rfl (fun w' hC => (by have t0 := hC.cell t0; have cv := hC.cell cv; go_simp; rfl)) (fun K hK => ?_); go_simp; refine hK _ ?_; clear hK K)
              refine calm_nil (fun wa hCa => ?_)
              refine late_keep rfl rfl hCa (fun wb hxb hCb K hK => ?_)
              go_simp
              refine hK _ _ (Below.alloc hCb hCb.size _) (fun _ => ?_)
              clear hK K
              refine late_free (by kernel_rfl) rfl rfl (fun wd hxd K hK => ?_)
              have Eb := Ext.trans (ext_cls hCa) hxb
              have Ed := Ext.trans (Ext.trans Eb (ext_alloc _ _)) hxd
              have hsz : w.heap.size ≤ wd.heap.size := by have h1 := Ed.size; omega
              refine wp_app (base := w.heap.size) ei_done (.tmp 71) (.tmp 81) rfl rfl (own_ext O.out Ed) rfl ((src_new wb _ [_, _] (m := 1) rfl (by intro u hu; simp only [List.mem_cons, List.not_mem_nil, or_false] at hu; rcases hu with rfl | rfl <;> rfl)).ext hxd) (by omega) hsz ?_
              intro ve we hown hg hat
              refine hK _ _ ?_
              clear hK K
              refine late_free (by kernel_rfl) rfl rfl (fun wf12 hx12 K hK => ?_)
              go_simp
              refine hK _ _ ?_
              clear hK K
              refine late_nil (fun w7 hxz => ?_)
              have EN := Ext.trans hx12 hxz
              obtain ⟨A3, cap3, hve⟩ := own_form hown
              replace QA := Lib.hid (((QA.out.ext Ed).grown (own_ext O.out Ed) NE_NI hg).ext EN)
              replace Qa := Lib.hid (((Qa.out.ext Ed).grown (own_ext O.out Ed) NE_NI hg).ext EN)
              clear t0 cv
              replace E := Lib.hid (Ext.trans (Below.grown (Ext.trans E.out Ed) hg (by have := hsz; omega) (fun k hk => by have := (O.out.lt k hk).1; omega)) EN)
              replace X := Lib.hid (((X.out.ext Ed).grownNe (own_ext O.out Ed) (by decide) hg).ext EN)
              have lX := X.out.lt
              replace T := Lib.hid (((T.out.ext Ed).grownNe (own_ext O.out Ed) (by decide) hg).ext EN)
              have lT := T.out.lt
              have heq : out ++ [((a : Int), tl)] = (out ++ [((a : Int), tl)]) := rfl
              replace O : Hid (Has w7 w.heap.size 99 2 (.slice A3 ((out ++ [((a : Int), tl)])).length cap3) ((out ++ [((a : Int), tl)])).length (((out ++ [((a : Int), tl)])).flatMap ptC)) := Lib.hid (by
                have q := own_ext hown EN
                rw [hve] at q
                rw [← heq, List.flatMap_append, List.length_append]
                exact q)
              have hvf : ve = .slice A3 ((out ++ [((a : Int), tl)])).length cap3 := by rw [hve, ← heq, List.length_append]; rfl
              clear hve
              clear hown hg hat heq EN Ed Eb hsz hCa hCb hxb hxd hxz hx12
              subst hvf
              have t0 := T.out.cell_of (i := 0) rfl
              clear t0
              have Qn := Lib.hid Qa.out.init
              rw [Hini.out] at Qn
              have t0 := T.out.cell_of (i := 0) rfl
              have cxa := X.out.cell_of (i := a) Va.out
              have fxa := X.out.frozen a
              go_wp2_with fail
              refine wp_region_calm [0,1,2,3,4,5,6,7,8] [9] (by kernel_rfl) (by kernel_rfl) ?_
              iterate 9 ((refine calm_yes rfl rfl (fun w' hC => (by have t0 := hC.cell t0; have cxa := hC.cell cxa; go_simp; rfl)) (fun K hK => ?_); go_simp; refine hK _ ?_; clear hK K))
              refine calm_nil (fun wa hCa => ?_)
              refine late_free (by kernel_rfl) rfl rfl (fun wb hxb K hK => ?_)
              have Eb := Ext.trans (ext_cls hCa) hxb
              clear t0
              clear cxa fxa
              replace X := Lib.hid (X.out.ext Eb)
              replace QA := Lib.hid (QA.out.ext Eb)
              replace Qn := Lib.hid (Qn.out.ext Eb)
              replace O := Lib.hid (own_ext O.out Eb)
              replace E := Lib.hid (Ext.trans E.out Eb)
              clear hCa hxb Eb
              have cxa := X.out.cell_of (i := a) Va.out
              have fxa := X.out.frozen a
              go_simp
              refine hK _ _ ?_
              clear hK K cxa fxa
              refine late_nil (fun wc hxc => ?_)
              have X6 := (X.out.set_ a (.slice (some ⟨bq, off, none⟩) pn capa)).ext hxc
              have QA6 := ((QA.out.set a Qn.out).row X.out NE_QI (.slice (some ⟨bq, off, none⟩) pn capa) (i := a)).ext hxc
              have O6 := own_ext (O.out.kept (only_set (only_refl wb _) a (.slice (some ⟨bq, off, none⟩) pn capa)) (.inr fun hh => ne_block X.out O.out NE_NQ hh.symm)) hxc
              have E6 := Ext.trans (E.out.setCell (p := ⟨w.heap.size, a, none⟩) (by exact Nat.le_refl _) (.slice (some ⟨bq, off, none⟩) pn capa)) hxc
              clear X QA O E hxc
              have X := Lib.hid X6
              have QA := Lib.hid QA6
              have O := Lib.hid O6
              have E := Lib.hid E6
              clear X6 QA6 O6 E6
              go_wp2
              go_roundw
              case rel => exact ⟨k + 1, A3, cap3, _, _, by omega, by go_num, by rw [List.length_append]; rfl, by rw [Hn.out], O.out, X.out, by rw [Hn.out]; exact QA.out, E.out⟩
              case measure => simp [intOf]; omega
            · have hnad : decide ((0 : Int) < (xa.length : Int)) = false := decide_eq_false (by omega)
              by_cases hnb : 0 < xb.length
              · have hnbd : decide ((0 : Int) < (xb.length : Int)) = true := decide_eq_true (by omega)
                obtain ⟨bq, off, rfl, hbq, hc⟩ := Ib.out.ints hnb
                have cv := hc 0 hnb
                have hfirst : xb[0]'hnb = xb.headD 0 := by
                  match xb, hnb with
                  | x :: xs, _ => rfl
                rw [hfirst] at cv
                have Hn : Hid (wSt W n sc (k + 1) = (qs.set b (xb.drop 1), out ++ [((a : Int), xb.headD 0)])) := Lib.hid (by
                  rw [Hst.out]; unfold stepW; dsimp only; rw [Ga.out, if_neg hna, Gb.out, if_pos hnb])
                obtain ⟨tl, htl⟩ : ∃ tl, tl = xb.headD 0 := ⟨_, rfl⟩
                rw [← htl] at cv Hn
                have hsl : ∀ Wd, (Instr.slice 75 (.slice (some ⟨bq, off, none⟩) xb.length capb) (some (.int .i64 1)) none none).run Tryz.prog Wd = .ok (.slice (subA (some ⟨bq, off, none⟩) capb 1 1) (xb.length - 1) (capb - 1)) Wd := fun Wd => run_slice_lo ei_int _ _ _ 1 1 rfl (by omega) Wd
                have Qn0 := Lib.hid (fun Wd (h : QR Wd xb (.slice (some ⟨bq, off, none⟩) xb.length capb)) => h.tail hnb)
                have hb2 : (0 : Int) < (xb.length : Int) := by omega
                simp only [Nat.add_zero] at cv
                clear hc hfirst htl Hst Ga Gb
                have Cv := Lib.hid cv
                clear t0 t1
                have t0 := T.out.cell_of (i := 0) rfl
                go_wp2_with fail
                have hz6 : w.heap.size ≤ w6.heap.size := by omega
                refine wp_region_calm [0,1,2,3,4,5,6] [7,8,9] (by kernel_rfl) (by kernel_rfl) ?_
                (refine calm_yes rfl rfl (fun w' hC => (by have t0 := hC.cell t0; have cv := hC.cell cv; go_simp; rfl)) (fun K hK => ?_); go_simp; refine hK _ ?_; clear hK K)
                (refine calm_yes rfl rfl (fun w' hC => (by have t0 := hC.cell t0; have cv := hC.cell cv; go_simp; rfl)) (fun K hK => ?_); go_simp; refine hK _ ?_; clear hK K)
                (refine calm_yes rfl rfl (fun w' hC => (by have t0 := hC.cell t0; have cv := hC.cell cv; go_simp; rfl)) (fun K hK => ?_); go_simp; refine hK _ ?_; clear hK K)
                (refine calm_yes rfl rfl (fun w' hC => (by have t0 := hC.cell t0; have cv := hC.cell cv; go_simp; rfl)) (fun K hK => ?_); go_simp; refine hK _ ?_; clear hK K)
                (refine calm_yes rfl rfl (fun w' hC => (by have t0 := hC.cell t0; have cv := hC.cell cv; go_simp; rfl)) (fun K hK => ?_); go_simp; refine hK _ ?_; clear hK K)
                (refine calm_yes rfl rfl (fun w' hC => (by have t0 := hC.cell t0; have cv := hC.cell cv; go_simp; rfl)) (fun K hK => ?_); go_simp; refine hK _ ?_; clear hK K)
                (refine calm_yes rfl rfl (fun w' hC => (by have t0 := hC.cell t0; have cv := hC.cell cv; go_simp; rfl)) (fun K hK => ?_); go_simp; refine hK _ ?_; clear hK K)
                refine calm_nil (fun wa hCa => ?_)
                refine late_keep rfl rfl hCa (fun wb hxb hCb K hK => ?_)
                go_simp
                refine hK _ _ (Below.alloc hCb hCb.size _) (fun _ => ?_)
                clear hK K
                refine late_free (by kernel_rfl) rfl rfl (fun wd hxd K hK => ?_)
                have Eb := Ext.trans (ext_cls hCa) hxb
                have Ed := Ext.trans (Ext.trans Eb (ext_alloc _ _)) hxd
                have hsz : w.heap.size ≤ wd.heap.size := by have h1 := Ed.size; omega
                refine wp_app (base := w.heap.size) ei_done (.tmp 96) (.tmp 103) rfl rfl (own_ext O.out Ed) rfl ((src_new wb _ [_, _] (m := 1) rfl (by intro u hu; simp only [List.mem_cons, List.not_mem_nil, or_false] at hu; rcases hu with rfl | rfl <;> rfl)).ext hxd) (by omega) hsz ?_
                intro ve we hown hg hat
                refine hK _ _ ?_
                clear hK K
                refine late_free (by kernel_rfl) rfl rfl (fun wf9 hx9 K hK => ?_)
                go_simp
                refine hK _ _ ?_
                clear hK K
                refine late_nil (fun w7 hxz => ?_)
                have EN := Ext.trans hx9 hxz
                obtain ⟨A3, cap3, hve⟩ := own_form hown
                replace QA := Lib.hid (((QA.out.ext Ed).grown (own_ext O.out Ed) NE_NI hg).ext EN)
                replace Qb := Lib.hid (((Qb.out.ext Ed).grown (own_ext O.out Ed) NE_NI hg).ext EN)
                clear t0 cv
                replace E := Lib.hid (Ext.trans (Below.grown (Ext.trans E.out Ed) hg (by have := hsz; omega) (fun k hk => by have := (O.out.lt k hk).1; omega)) EN)
                replace X := Lib.hid (((X.out.ext Ed).grownNe (own_ext O.out Ed) (by decide) hg).ext EN)
                have lX := X.out.lt
                replace T := Lib.hid (((T.out.ext Ed).grownNe (own_ext O.out Ed) (by decide) hg).ext EN)
                have lT := T.out.lt
                have heq : out ++ [((a : Int), tl)] = (out ++ [((a : Int), tl)]) := rfl
                replace O : Hid (Has w7 w.heap.size 99 2 (.slice A3 ((out ++ [((a : Int), tl)])).length cap3) ((out ++ [((a : Int), tl)])).length (((out ++ [((a : Int), tl)])).flatMap ptC)) := Lib.hid (by
                  have q := own_ext hown EN
                  rw [hve] at q
                  rw [← heq, List.flatMap_append, List.length_append]
                  exact q)
                have hvf : ve = .slice A3 ((out ++ [((a : Int), tl)])).length cap3 := by rw [hve, ← heq, List.length_append]; rfl
                clear hve
                clear hown hg hat heq EN Ed Eb hsz hCa hCb hxb hxd hxz hx9
                subst hvf
                have t0 := T.out.cell_of (i := 0) rfl
                clear t0
                have Qn := Lib.hid (Qn0.out _ Qb.out)
                generalize subA (some ⟨bq, off, none⟩) capb 1 1 = As at *
                generalize xb.length - 1 = ln at *
                have t1 := T.out.cell_of (i := 1) rfl
                have cxb := X.out.cell_of (i := b) Vb.out
                have fxb := X.out.frozen b
                go_wp2_with fail
                refine wp_region_calm [0,1,2,3,4,5] [6] (by kernel_rfl) (by kernel_rfl) ?_
                iterate 6 ((refine calm_yes rfl rfl (fun w' hC => (by have t1 := hC.cell t1; have cxb := hC.cell cxb; go_simp; rfl)) (fun K hK => ?_); go_simp; refine hK _ ?_; clear hK K))
                refine calm_nil (fun wa hCa => ?_)
                refine late_free (by kernel_rfl) rfl rfl (fun wb hxb K hK => ?_)
                have Eb := Ext.trans (ext_cls hCa) hxb
                clear t1
                clear cxb fxb
                replace X := Lib.hid (X.out.ext Eb)
                replace QA := Lib.hid (QA.out.ext Eb)
                replace Qn := Lib.hid (Qn.out.ext Eb)
                replace O := Lib.hid (own_ext O.out Eb)
                replace E := Lib.hid (Ext.trans E.out Eb)
                clear hCa hxb Eb
                have cxb := X.out.cell_of (i := b) Vb.out
                have fxb := X.out.frozen b
                go_simp
                refine hK _ _ ?_
                clear hK K cxb fxb
                refine late_nil (fun wc hxc => ?_)
                have X6 := (X.out.set_ b (.slice As ln (capb - 1))).ext hxc
                have QA6 := ((QA.out.set b Qn.out).row X.out NE_QI (.slice As ln (capb - 1)) (i := b)).ext hxc
                have O6 := own_ext (O.out.kept (only_set (only_refl wb _) b (.slice As ln (capb - 1))) (.inr fun hh => ne_block X.out O.out NE_NQ hh.symm)) hxc
                have E6 := Ext.trans (E.out.setCell (p := ⟨w.heap.size, b, none⟩) (by exact Nat.le_refl _) (.slice As ln (capb - 1))) hxc
                clear X QA O E hxc
                have X := Lib.hid X6
                have QA := Lib.hid QA6
                have O := Lib.hid O6
                have E := Lib.hid E6
                clear X6 QA6 O6 E6
                go_wp2
                go_roundw
                case rel => exact ⟨k + 1, A3, cap3, _, _, by omega, by go_num, by rw [List.length_append]; rfl, by rw [Hn.out], O.out, X.out, by rw [Hn.out]; exact QA.out, E.out⟩
                case measure => simp [intOf]; omega
              · have hnbd : decide ((0 : Int) < (xb.length : Int)) = false := decide_eq_false (by omega)
                have Hn : Hid (wSt W n sc (k + 1) = (qs, out)) := Lib.hid (by
                  rw [Hst.out]; unfold stepW; dsimp only; rw [Ga.out, if_neg hna, Gb.out, if_neg hnb])
                clear Hst
                go_wp2
                go_roundw
                case rel => exact ⟨k + 1, A1, cap1, out, vs, by omega, by go_num, rfl, by rw [Hn.out], O.out, X.out, by rw [Hn.out]; exact QA.out, E.out⟩
                case measure => simp [intOf]; omega
          · have hkd : decide ((k : Int) < (sc.length : Int)) = false := by simp; omega
            have hab : (a, b) = (m1, m2) := by
              have := Hta.out
              rw [List.getElem?_eq_none (by omega)] at this
              exact this
            injection hab with e1 e2
            subst e1 e2
            clear hm1 hm2 hwr hwm1 hwm2 hW0
            have t0 := T.out.cell_of (i := 0) rfl
            have zt0 := T.out.frozen 0
            have t1 := T.out.cell_of (i := 1) rfl
            have zt1 := T.out.frozen 1
            go_wp2_with fail
            clear t0 zt0 t1 zt1
            obtain ⟨Wz, hWz⟩ : ∃ Wz : World, Wz = w2 := ⟨_, rfl⟩
            subst hWz
            have hal : (a : Int) < (W : Int) := by omega
            have hbl : (b : Int) < (W : Int) := by omega
            have ha0 : (0 : Int) ≤ (a : Int) := by omega
            have hb0 : (0 : Int) ≤ (b : Int) := by omega
            obtain ⟨Aa, capa, hva, hlea, hIa, _⟩ := QA.out.2 a (by have := Hvl.out; omega) (by have := Hlen.out; omega)
            obtain ⟨Ab, capb, hvb, hleb, hIb, _⟩ := QA.out.2 b (by have := Hvl.out; omega) (by have := Hlen.out; omega)
            have Va : Hid (vs[a]? = some (.slice Aa (qs[a]'(by have := Hlen.out; omega)).length capa)) := Lib.hid (by rw [← hva]; exact List.getElem?_eq_getElem _)
            have Vb : Hid (vs[b]? = some (.slice Ab (qs[b]'(by have := Hlen.out; omega)).length capb)) := Lib.hid (by rw [← hvb]; exact List.getElem?_eq_getElem _)
            have Ga : Hid (qs.getD a [] = qs[a]'(by have := Hlen.out; omega)) := Lib.hid (getD_of (by have := Hlen.out; omega))
            have Gb : Hid (qs.getD b [] = qs[b]'(by have := Hlen.out; omega)) := Lib.hid (getD_of (by have := Hlen.out; omega))
            have La : (qs[a]'(by have := Hlen.out; omega)).length ≤ 16 := by
              have h2 : (qs[a]'(by have := Hlen.out; omega)).length ≤ qs.flatten.length := (List.sublist_flatten_of_mem (List.getElem_mem _)).length_le
              have := Htot.out
              omega
            have Lb : (qs[b]'(by have := Hlen.out; omega)).length ≤ 16 := by
              have h2 : (qs[b]'(by have := Hlen.out; omega)).length ≤ qs.flatten.length := (List.sublist_flatten_of_mem (List.getElem_mem _)).length_le
              have := Htot.out
              omega
            have Ia := Lib.hid hIa
            have Ib := Lib.hid hIb
            have Qa := Lib.hid (QA.out.2 a (by have := Hvl.out; omega) (by have := Hlen.out; omega))
            have Qb := Lib.hid (QA.out.2 b (by have := Hvl.out; omega) (by have := Hlen.out; omega))
            rw [hva] at Qa
            rw [hvb] at Qb
            clear hva hvb hIa hIb
            generalize hqa : qs[a]'(by have := Hlen.out; omega) = xa at *
            generalize hqb : qs[b]'(by have := Hlen.out; omega) = xb at *
            clear hqa hqb
            have t0 := T.out.cell_of (i := 0) rfl
            have t1 := T.out.cell_of (i := 1) rfl
            have cxa := X.out.cell_of (i := a) Va.out
            have cxb := X.out.cell_of (i := b) Vb.out
            refine wp_region_calm [0,1,2,3,4,5,6,7,8,9,10,11] [] (by kernel_rfl) (by kernel_rfl) ?_
            (refine calm_yes rfl rfl (fun w' hC => (by have t0 := hC.cell t0; have t1 := hC.cell t1; have cxa := hC.cell cxa; have cxb := hC.cell cxb; go_simp; rfl)) (fun K hK => ?_); go_simp; refine hK _ ?_; clear hK K)
            (refine calm_yes rfl rfl (fun w' hC => (by have t0 := hC.cell t0; have t1 := hC.cell t1; have cxa := hC.cell cxa; have cxb := hC.cell cxb; go_simp; rfl)) (fun K hK => ?_); go_simp; refine hK _ ?_; clear hK K)
            (refine calm_yes rfl rfl (fun w' hC => (by have t0 := hC.cell t0; have t1 := hC.cell t1; have cxa := hC.cell cxa; have cxb := hC.cell cxb; go_simp; rfl)) (fun K hK => ?_); go_simp; refine hK _ ?_; clear hK K)
            (refine calm_yes rfl rfl (fun w' hC => (by have t0 := hC.cell t0; have t1 := hC.cell t1; have cxa := hC.cell cxa; have cxb := hC.cell cxb; go_simp; rfl)) (fun K hK => ?_); go_simp; refine hK _ ?_; clear hK K)
            (refine calm_yes rfl rfl (fun w' hC => (by have t0 := hC.cell t0; have t1 := hC.cell t1; have cxa := hC.cell cxa; have cxb := hC.cell cxb; go_simp; rfl)) (fun K hK => ?_); go_simp; refine hK _ ?_; clear hK K)
            (refine calm_yes rfl rfl (fun w' hC => (by have t0 := hC.cell t0; have t1 := hC.cell t1; have cxa := hC.cell cxa; have cxb := hC.cell cxb; go_simp; rfl)) (fun K hK => ?_); go_simp; refine hK _ ?_; clear hK K)
            (refine calm_yes rfl rfl (fun w' hC => (by have t0 := hC.cell t0; have t1 := hC.cell t1; have cxa := hC.cell cxa; have cxb := hC.cell cxb; go_simp; rfl)) (fun K hK => ?_); go_simp; refine hK _ ?_; clear hK K)
            (refine calm_yes rfl rfl (fun w' hC => (by have t0 := hC.cell t0; have t1 := hC.cell t1; have cxa := hC.cell cxa; have cxb := hC.cell cxb; go_simp; rfl)) (fun K hK => ?_); go_simp; refine hK _ ?_; clear hK K)
            (refine calm_yes rfl rfl (fun w' hC => (by have t0 := hC.cell t0; have t1 := hC.cell t1; have cxa := hC.cell cxa; have cxb := hC.cell cxb; go_simp; rfl)) (fun K hK => ?_); go_simp; refine hK _ ?_; clear hK K)
            (refine calm_yes rfl rfl (fun w' hC => (by have t0 := hC.cell t0; have t1 := hC.cell t1; have cxa := hC.cell cxa; have cxb := hC.cell cxb; go_simp; rfl)) (fun K hK => ?_); go_simp; refine hK _ ?_; clear hK K)
            (refine calm_yes rfl rfl (fun w' hC => (by have t0 := hC.cell t0; have t1 := hC.cell t1; have cxa := hC.cell cxa; have cxb := hC.cell cxb; go_simp; rfl)) (fun K hK => ?_); go_simp; refine hK _ ?_; clear hK K)
            (refine calm_yes rfl rfl (fun w' hC => (by have t0 := hC.cell t0; have t1 := hC.cell t1; have cxa := hC.cell cxa; have cxb := hC.cell cxb; go_simp; rfl)) (fun K hK => ?_); go_simp; refine hK _ ?_; clear hK K)
            refine calm_done (fun w6 hb => ?_)
            clear t0 t1 cxa cxb
            replace E := Lib.hid (Ext.trans E.out hb)
            replace O := Lib.hid (own_ext O.out hb)
            replace X := Lib.hid (X.out.ext hb)
            have lX := X.out.lt
            replace QA := Lib.hid (QA.out.ext hb)
            replace T := Lib.hid (T.out.ext hb)
            have lT := T.out.lt
            replace Ia := Lib.hid (Ia.out.ext intR_stab hb)
            replace Ib := Lib.hid (Ib.out.ext intR_stab hb)
            replace Qa := Lib.hid (Qa.out.ext hb)
            replace Qb := Lib.hid (Qb.out.ext hb)
            clear hb
            have t0 := T.out.cell_of (i := 0) rfl
            have t1 := T.out.cell_of (i := 1) rfl
            by_cases hna : 0 < xa.length
            · have hnad : decide ((0 : Int) < (xa.length : Int)) = true := decide_eq_true (by omega)
              obtain ⟨bq, off, rfl, hbq, hc⟩ := Ia.out.ints hna
              obtain ⟨pn, hpn⟩ : ∃ pn, xa.length = pn + 1 := ⟨xa.length - 1, by omega⟩
              have cv := hc pn (by omega)
              have hlast : xa[pn]'(by omega) = xa.getLastD 0 := by
                have hh : xa[pn]? = xa[xa.length - 1]? := by rw [show pn = xa.length - 1 by omega]
                rw [List.getElem?_eq_getElem (by omega)] at hh
                rw [List.getLastD_eq_getLast?, List.getLast?_eq_getElem?, ← hh]; rfl
              rw [hlast] at cv
              have Hn : Hid (wSt W n sc (k + 1) = (qs.set a xa.dropLast, out ++ [((a : Int), xa.getLastD 0)])) := Lib.hid (by
                rw [Hst.out]; unfold stepW; dsimp only; rw [Ga.out, if_pos hna])
              obtain ⟨tl, htl⟩ : ∃ tl, tl = xa.getLastD 0 := ⟨_, rfl⟩
              rw [← htl] at cv Hn
              have hp1 : (xa.length : Int) - 1 = (pn : Int) := by omega
              have hp2 : IntKind.i64.wrap ((xa.length : Int) - 1) = (xa.length : Int) - 1 := IntWalk.i64_in _ (by omega)
              have hp5 : IntKind.i64.wrap (pn : Int) = (pn : Int) := IntWalk.i64_in _ (by omega)
              have hp3 : (0 : Int) ≤ (pn : Int) := by omega
              have hp4 : (pn : Int) < (xa.length : Int) := by omega
              have hsl : ∀ Wd, (Instr.slice 75 (.slice (some ⟨bq, off, none⟩) xa.length capa) none (some (.int .i64 (pn : Int))) none).run Tryz.prog Wd = .ok (.slice (some ⟨bq, off, none⟩) pn capa) Wd := fun Wd => run_slice_hi ei_int _ _ _ pn _ rfl (by omega) Wd
              have Hini : Hid (xa.length - 1 = pn) := Lib.hid (by omega)
              clear hc hlast htl Hst Ga Gb hpn
              have Cv := Lib.hid cv
              clear t0 t1
              have t0 := T.out.cell_of (i := 0) rfl
              go_wp2_with fail
              have hz6 : w.heap.size ≤ w6.heap.size := by omega
              refine wp_region_calm [0,1,2,3,4,5,6,7,8,9] [10,11,12] (by kernel_rfl) (by kernel_rfl) ?_
              (refine calm_yes rfl rfl (fun w' hC => (by have t0 := hC.cell t0; have cv := hC.cell cv; go_simp; rfl)) (fun K hK => ?_); go_simp; refine hK _ ?_; clear hK K)
              (refine calm_yes rfl rfl (fun w' hC => (by have t0 := hC.cell t0; have cv := hC.cell cv; go_simp; rfl)) (fun K hK => ?_); go_simp; refine hK _ ?_; clear hK K)
              (refine calm_yes rfl rfl (fun w' hC => (by have t0 := hC.cell t0; have cv := hC.cell cv; go_simp; rfl)) (fun K hK => ?_); go_simp; refine hK _ ?_; clear hK K)
              (refine calm_yes rfl rfl (fun w' hC => (by have t0 := hC.cell t0; have cv := hC.cell cv; go_simp; rfl)) (fun K hK => ?_); go_simp; refine hK _ ?_; clear hK K)
              (refine calm_yes rfl rfl (fun w' hC => (by have t0 := hC.cell t0; have cv := hC.cell cv; go_simp; rfl)) (fun K hK => ?_); go_simp; refine hK _ ?_; clear hK K)
              (refine calm_yes rfl rfl (fun w' hC => (by have t0 := hC.cell t0; have cv := hC.cell cv; go_simp; rfl)) (fun K hK => ?_); go_simp; refine hK _ ?_; clear hK K)
              (refine calm_yes rfl rfl (fun w' hC => (by have t0 := hC.cell t0; have cv := hC.cell cv; go_simp; rfl)) (fun K hK => ?_); go_simp; refine hK _ ?_; clear hK K)
              (refine calm_yes rfl rfl (fun w' hC => (by have t0 := hC.cell t0; have cv := hC.cell cv; go_simp; rfl)) (fun K hK => ?_); go_simp; refine hK _ ?_; clear hK K)
              (refine calm_yes rfl rfl (fun w' hC => (by have t0 := hC.cell t0; have cv := hC.cell cv; go_simp; rfl)) (fun K hK => ?_); go_simp; refine hK _ ?_; clear hK K)
              (refine calm_yes rfl rfl (fun w' hC => (by have t0 := hC.cell t0; have cv := hC.cell cv; go_simp; rfl)) (fun K hK => ?_); go_simp; refine hK _ ?_; clear hK K)
              refine calm_nil (fun wa hCa => ?_)
              refine late_keep rfl rfl hCa (fun wb hxb hCb K hK => ?_)
              go_simp
              refine hK _ _ (Below.alloc hCb hCb.size _) (fun _ => ?_)
              clear hK K
              refine late_free (by kernel_rfl) rfl rfl (fun wd hxd K hK => ?_)
              have Eb := Ext.trans (ext_cls hCa) hxb
              have Ed := Ext.trans (Ext.trans Eb (ext_alloc _ _)) hxd
              have hsz : w.heap.size ≤ wd.heap.size := by have h1 := Ed.size; omega
              refine wp_app (base := w.heap.size) ei_done (.tmp 71) (.tmp 81) rfl rfl (own_ext O.out Ed) rfl ((src_new wb _ [_, _] (m := 1) rfl (by intro u hu; simp only [List.mem_cons, List.not_mem_nil, or_false] at hu; rcases hu with rfl | rfl <;> rfl)).ext hxd) (by omega) hsz ?_
              intro ve we hown hg hat
              refine hK _ _ ?_
              clear hK K
              refine late_free (by kernel_rfl) rfl rfl (fun wf12 hx12 K hK => ?_)
              go_simp
              refine hK _ _ ?_
              clear hK K
              refine late_nil (fun w7 hxz => ?_)
              have EN := Ext.trans hx12 hxz
              obtain ⟨A3, cap3, hve⟩ := own_form hown
              replace QA := Lib.hid (((QA.out.ext Ed).grown (own_ext O.out Ed) NE_NI hg).ext EN)
              replace Qa := Lib.hid (((Qa.out.ext Ed).grown (own_ext O.out Ed) NE_NI hg).ext EN)
              clear t0 cv
              replace E := Lib.hid (Ext.trans (Below.grown (Ext.trans E.out Ed) hg (by have := hsz; omega) (fun k hk => by have := (O.out.lt k hk).1; omega)) EN)
              replace X := Lib.hid (((X.out.ext Ed).grownNe (own_ext O.out Ed) (by decide) hg).ext EN)
              have lX := X.out.lt
              replace T := Lib.hid (((T.out.ext Ed).grownNe (own_ext O.out Ed) (by decide) hg).ext EN)
              have lT := T.out.lt
              have heq : out ++ [((a : Int), tl)] = (out ++ [((a : Int), tl)]) := rfl
              replace O : Hid (Has w7 w.heap.size 99 2 (.slice A3 ((out ++ [((a : Int), tl)])).length cap3) ((out ++ [((a : Int), tl)])).length (((out ++ [((a : Int), tl)])).flatMap ptC)) := Lib.hid (by
                have q := own_ext hown EN
                rw [hve] at q
                rw [← heq, List.flatMap_append, List.length_append]
                exact q)
              have hvf : ve = .slice A3 ((out ++ [((a : Int), tl)])).length cap3 := by rw [hve, ← heq, List.length_append]; rfl
              clear hve
              clear hown hg hat heq EN Ed Eb hsz hCa hCb hxb hxd hxz hx12
              subst hvf
              have t0 := T.out.cell_of (i := 0) rfl
              clear t0
              have Qn := Lib.hid Qa.out.init
              rw [Hini.out] at Qn
              have t0 := T.out.cell_of (i := 0) rfl
              have cxa := X.out.cell_of (i := a) Va.out
              have fxa := X.out.frozen a
              go_wp2_with fail
              refine wp_region_calm [0,1,2,3,4,5,6,7,8] [9] (by kernel_rfl) (by kernel_rfl) ?_
              iterate 9 ((refine calm_yes rfl rfl (fun w' hC => (by have t0 := hC.cell t0; have cxa := hC.cell cxa; go_simp; rfl)) (fun K hK => ?_); go_simp; refine hK _ ?_; clear hK K))
              refine calm_nil (fun wa hCa => ?_)
              refine late_free (by kernel_rfl) rfl rfl (fun wb hxb K hK => ?_)
              have Eb := Ext.trans (ext_cls hCa) hxb
              clear t0
              clear cxa fxa
              replace X := Lib.hid (X.out.ext Eb)
              replace QA := Lib.hid (QA.out.ext Eb)
              replace Qn := Lib.hid (Qn.out.ext Eb)
              replace O := Lib.hid (own_ext O.out Eb)
              replace E := Lib.hid (Ext.trans E.out Eb)
              clear hCa hxb Eb
              have cxa := X.out.cell_of (i := a) Va.out
              have fxa := X.out.frozen a
              go_simp
              refine hK _ _ ?_
              clear hK K cxa fxa
              refine late_nil (fun wc hxc => ?_)
              have X6 := (X.out.set_ a (.slice (some ⟨bq, off, none⟩) pn capa)).ext hxc
              have QA6 := ((QA.out.set a Qn.out).row X.out NE_QI (.slice (some ⟨bq, off, none⟩) pn capa) (i := a)).ext hxc
              have O6 := own_ext (O.out.kept (only_set (only_refl wb _) a (.slice (some ⟨bq, off, none⟩) pn capa)) (.inr fun hh => ne_block X.out O.out NE_NQ hh.symm)) hxc
              have E6 := Ext.trans (E.out.setCell (p := ⟨w.heap.size, a, none⟩) (by exact Nat.le_refl _) (.slice (some ⟨bq, off, none⟩) pn capa)) hxc
              clear X QA O E hxc
              have X := Lib.hid X6
              have QA := Lib.hid QA6
              have O := Lib.hid O6
              have E := Lib.hid E6
              clear X6 QA6 O6 E6
              go_wp2
              go_roundw
              case rel => exact ⟨k + 1, A3, cap3, _, _, by omega, by go_num, by rw [List.length_append]; rfl, by rw [Hn.out], O.out, X.out, by rw [Hn.out]; exact QA.out, E.out⟩
              case measure => simp [intOf]; omega
            · have hnad : decide ((0 : Int) < (xa.length : Int)) = false := decide_eq_false (by omega)
              by_cases hnb : 0 < xb.length
              · have hnbd : decide ((0 : Int) < (xb.length : Int)) = true := decide_eq_true (by omega)
                obtain ⟨bq, off, rfl, hbq, hc⟩ := Ib.out.ints hnb
                have cv := hc 0 hnb
                have hfirst : xb[0]'hnb = xb.headD 0 := by
                  match xb, hnb with
                  | x :: xs, _ => rfl
                rw [hfirst] at cv
                have Hn : Hid (wSt W n sc (k + 1) = (qs.set b (xb.drop 1), out ++ [((a : Int), xb.headD 0)])) := Lib.hid (by
                  rw [Hst.out]; unfold stepW; dsimp only; rw [Ga.out, if_neg hna, Gb.out, if_pos hnb])
                obtain ⟨tl, htl⟩ : ∃ tl, tl = xb.headD 0 := ⟨_, rfl⟩
                rw [← htl] at cv Hn
                have hsl : ∀ Wd, (Instr.slice 75 (.slice (some ⟨bq, off, none⟩) xb.length capb) (some (.int .i64 1)) none none).run Tryz.prog Wd = .ok (.slice (subA (some ⟨bq, off, none⟩) capb 1 1) (xb.length - 1) (capb - 1)) Wd := fun Wd => run_slice_lo ei_int _ _ _ 1 1 rfl (by omega) Wd
                have Qn0 := Lib.hid (fun Wd (h : QR Wd xb (.slice (some ⟨bq, off, none⟩) xb.length capb)) => h.tail hnb)
                have hb2 : (0 : Int) < (xb.length : Int) := by omega
                simp only [Nat.add_zero] at cv
                clear hc hfirst htl Hst Ga Gb
                have Cv := Lib.hid cv
                clear t0 t1
                have t0 := T.out.cell_of (i := 0) rfl
                go_wp2_with fail
                have hz6 : w.heap.size ≤ w6.heap.size := by omega
                refine wp_region_calm [0,1,2,3,4,5,6] [7,8,9] (by kernel_rfl) (by kernel_rfl) ?_
                (refine calm_yes rfl rfl (fun w' hC => (by have t0 := hC.cell t0; have cv := hC.cell cv; go_simp; rfl)) (fun K hK => ?_); go_simp; refine hK _ ?_; clear hK K)
                (refine calm_yes rfl rfl (fun w' hC => (by have t0 := hC.cell t0; have cv := hC.cell cv; go_simp; rfl)) (fun K hK => ?_); go_simp; refine hK _ ?_; clear hK K)
                (refine calm_yes rfl rfl (fun w' hC => (by have t0 := hC.cell t0; have cv := hC.cell cv; go_simp; rfl)) (fun K hK => ?_); go_simp; refine hK _ ?_; clear hK K)
                (refine calm_yes rfl rfl (fun w' hC => (by have t0 := hC.cell t0; have cv := hC.cell cv; go_simp; rfl)) (fun K hK => ?_); go_simp; refine hK _ ?_; clear hK K)
                (refine calm_yes rfl rfl (fun w' hC => (by have t0 := hC.cell t0; have cv := hC.cell cv; go_simp; rfl)) (fun K hK => ?_); go_simp; refine hK _ ?_; clear hK K)
                (refine calm_yes rfl rfl (fun w' hC => (by have t0 := hC.cell t0; have cv := hC.cell cv; go_simp; rfl)) (fun K hK => ?_); go_simp; refine hK _ ?_; clear hK K)
                (refine calm_yes rfl rfl (fun w' hC => (by have t0 := hC.cell t0; have cv := hC.cell cv; go_simp; rfl)) (fun K hK => ?_); go_simp; refine hK _ ?_; clear hK K)
                refine calm_nil (fun wa hCa => ?_)
                refine late_keep rfl rfl hCa (fun wb hxb hCb K hK => ?_)
                go_simp
                refine hK _ _ (Below.alloc hCb hCb.size _) (fun _ => ?_)
                clear hK K
                refine late_free (by kernel_rfl) rfl rfl (fun wd hxd K hK => ?_)
                have Eb := Ext.trans (ext_cls hCa) hxb
                have Ed := Ext.trans (Ext.trans Eb (ext_alloc _ _)) hxd
                have hsz : w.heap.size ≤ wd.heap.size := by have h1 := Ed.size; omega
                refine wp_app (base := w.heap.size) ei_done (.tmp 96) (.tmp 103) rfl rfl (own_ext O.out Ed) rfl ((src_new wb _ [_, _] (m := 1) rfl (by intro u hu; simp only [List.mem_cons, List.not_mem_nil, or_false] at hu; rcases hu with rfl | rfl <;> rfl)).ext hxd) (by omega) hsz ?_
                intro ve we hown hg hat
                refine hK _ _ ?_
                clear hK K
                refine late_free (by kernel_rfl) rfl rfl (fun wf9 hx9 K hK => ?_)
                go_simp
                refine hK _ _ ?_
                clear hK K
                refine late_nil (fun w7 hxz => ?_)
                have EN := Ext.trans hx9 hxz
                obtain ⟨A3, cap3, hve⟩ := own_form hown
                replace QA := Lib.hid (((QA.out.ext Ed).grown (own_ext O.out Ed) NE_NI hg).ext EN)
                replace Qb := Lib.hid (((Qb.out.ext Ed).grown (own_ext O.out Ed) NE_NI hg).ext EN)
                clear t0 cv
                replace E := Lib.hid (Ext.trans (Below.grown (Ext.trans E.out Ed) hg (by have := hsz; omega) (fun k hk => by have := (O.out.lt k hk).1; omega)) EN)
                replace X := Lib.hid (((X.out.ext Ed).grownNe (own_ext O.out Ed) (by decide) hg).ext EN)
                have lX := X.out.lt
                replace T := Lib.hid (((T.out.ext Ed).grownNe (own_ext O.out Ed) (by decide) hg).ext EN)
                have lT := T.out.lt
                have heq : out ++ [((a : Int), tl)] = (out ++ [((a : Int), tl)]) := rfl
                replace O : Hid (Has w7 w.heap.size 99 2 (.slice A3 ((out ++ [((a : Int), tl)])).length cap3) ((out ++ [((a : Int), tl)])).length (((out ++ [((a : Int), tl)])).flatMap ptC)) := Lib.hid (by
                  have q := own_ext hown EN
                  rw [hve] at q
                  rw [← heq, List.flatMap_append, List.length_append]
                  exact q)
                have hvf : ve = .slice A3 ((out ++ [((a : Int), tl)])).length cap3 := by rw [hve, ← heq, List.length_append]; rfl
                clear hve
                clear hown hg hat heq EN Ed Eb hsz hCa hCb hxb hxd hxz hx9
                subst hvf
                have t0 := T.out.cell_of (i := 0) rfl
                clear t0
                have Qn := Lib.hid (Qn0.out _ Qb.out)
                generalize subA (some ⟨bq, off, none⟩) capb 1 1 = As at *
                generalize xb.length - 1 = ln at *
                have t1 := T.out.cell_of (i := 1) rfl
                have cxb := X.out.cell_of (i := b) Vb.out
                have fxb := X.out.frozen b
                go_wp2_with fail
                refine wp_region_calm [0,1,2,3,4,5] [6] (by kernel_rfl) (by kernel_rfl) ?_
                iterate 6 ((refine calm_yes rfl rfl (fun w' hC => (by have t1 := hC.cell t1; have cxb := hC.cell cxb; go_simp; rfl)) (fun K hK => ?_); go_simp; refine hK _ ?_; clear hK K))
                refine calm_nil (fun wa hCa => ?_)
                refine late_free (by kernel_rfl) rfl rfl (fun wb hxb K hK => ?_)
                have Eb := Ext.trans (ext_cls hCa) hxb
                clear t1
                clear cxb fxb
                replace X := Lib.hid (X.out.ext Eb)
                replace QA := Lib.hid (QA.out.ext Eb)
                replace Qn := Lib.hid (Qn.out.ext Eb)
                replace O := Lib.hid (own_ext O.out Eb)
                replace E := Lib.hid (Ext.trans E.out Eb)
                clear hCa hxb Eb
                have cxb := X.out.cell_of (i := b) Vb.out
                have fxb := X.out.frozen b
                go_simp
                refine hK _ _ ?_
                clear hK K cxb fxb
                refine late_nil (fun wc hxc => ?_)
                have X6 := (X.out.set_ b (.slice As ln (capb - 1))).ext hxc
                have QA6 := ((QA.out.set b Qn.out).row X.out NE_QI (.slice As ln (capb - 1)) (i := b)).ext hxc
                have O6 := own_ext (O.out.kept (only_set (only_refl wb _) b (.slice As ln (capb - 1))) (.inr fun hh => ne_block X.out O.out NE_NQ hh.symm)) hxc
                have E6 := Ext.trans (E.out.setCell (p := ⟨w.heap.size, b, none⟩) (by exact Nat.le_refl _) (.slice As ln (capb - 1))) hxc
                clear X QA O E hxc
                have X := Lib.hid X6
                have QA := Lib.hid QA6
                have O := Lib.hid O6
                have E := Lib.hid E6
                clear X6 QA6 O6 E6
                go_wp2
                go_roundw
                case rel => exact ⟨k + 1, A3, cap3, _, _, by omega, by go_num, by rw [List.length_append]; rfl, by rw [Hn.out], O.out, X.out, by rw [Hn.out]; exact QA.out, E.out⟩
                case measure => simp [intOf]; omega
              · have hnbd : decide ((0 : Int) < (xb.length : Int)) = false := decide_eq_false (by omega)
                have Hn : Hid (wSt W n sc (k + 1) = (qs, out)) := Lib.hid (by
                  rw [Hst.out]; unfold stepW; dsimp only; rw [Ga.out, if_neg hna, Gb.out, if_neg hnb])
                clear Hst
                go_wp2
                go_roundw
                case rel => exact ⟨k + 1, A1, cap1, out, vs, by omega, by go_num, rfl, by rw [Hn.out], O.out, X.out, by rw [Hn.out]; exact QA.out, E.out⟩
                case measure => simp [intOf]; omega
        · have hltI : decide ((out.length : Int) < (n : Int)) = false := by simp; omega
          have Hf := Lib.hid (Hend.out hlt)
          go_wp2_with fail
          refine (c_ClipD A1 out.length cap1 _ O.out.slok).mono ?_
          rintro e w' ⟨rfl, rfl⟩
          go_wp2
          go_ret
          rw [Hf.out]
          exact ⟨A1, out.length, rfl, O.out.clip, E.out⟩
end Go.Proofs.YtagmnbphbakikaaGreat
