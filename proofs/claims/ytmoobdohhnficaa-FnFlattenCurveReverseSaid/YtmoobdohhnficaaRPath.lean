/-
  Paths drawn: the walk of randomPath.
-/
import Derived.Test.YtmoobdohhnficaaGen
import Derived.Test.YtmoobdohhnficaaBounds
import Derived.Test.YtmoobdohhnficaaBox
import Derived.Test.YtmoobdohhnficaaPath2
namespace Go.Proofs.Ytmoobdohhnficaa
open Go Go.RowKit Reg
attribute [local go_sem] calmAt calmUpon
theorem VT_ne_RD : (64 : TypeId) ≠ 48 := by decide
section
variable {w w' : World} {B g N : Nat} {v : Value} {vs : List Vb} {ss : List Value}
abbrev OV (w : World) (B : Nat) (v : Value) (vs : List Vb) (ss : List Value) : Prop := OVb w B 44 64 v vs ss
theorem OVb.keptR (h : OV w B v vs ss) (hr : Rdr w g N) (hg : w.grownBy w' (some g)) : OV w' B v vs ss :=
  ⟨h.len, h.out.keptR hr VT_ne_RD hg, fun i hi => (h.inn i hi).keptR hr PT_ne_RD hg, h.nd⟩
theorem OVb.old (h : OV w B v vs ss) : ∀ (i : Nat) (hi : i < ss.length) g, ss[i].ownBlock = some g → g < w.heap.size := fun i hi g hg =>
  ((h.inn i (by rw [← h.len]; exact hi)).lt g hg).2
/-- Verbs behind verbs, no row shared. -/
theorem OVb.catD {w7 w8 : World} {v8 v2 : Value} {vs2 : List Vb} {ss2 : List Value} {B2 : Nat} (h : OV w7 B v vs ss) (h2 : OV w7 B2 v2 vs2 ss2) (hB' : B ≤ B2)
    (key : ∀ (a b : Nat) (ha : a < ss.length) (hb : b < ss2.length), ∀ g, ss[a].ownBlock = some g → ss2[b].ownBlock = some g → False)
    (hout : Has w8 B 64 2 v8 (vs.length + vs2.length) (zipC vs ss ++ zipC vs2 ss2)) (hg : w7.grownBy w8 v.ownBlock) : OV w8 B v8 (vs ++ vs2) (ss ++ ss2) := by
  have hl := h.len
  have hl2 := h2.len
  refine ⟨by simp [hl, hl2], by rw [zipC_append hl.symm, List.length_append]; exact hout, fun i hi => ?_, fun i j hi hj hij => ?_⟩
  · simp only [List.length_append] at hi
    rcases Nat.lt_or_ge i vs.length with hlt | hge
    · have := (h.inn i hlt).kept hg (own_ne (h.inn i hlt) h.out TP_ne_TV)
      simpa [List.getElem_append_left hlt, List.getElem_append_left (show i < ss.length by omega)] using this
    · have := ((h2.inn (i - vs.length) (by omega)).rebase hB').kept hg (own_ne (h2.inn (i - vs.length) (by omega)) h.out TP_ne_TV)
      have e1 : (vs ++ vs2)[i]'(by rw [List.length_append]; exact hi) = vs2[i - vs.length]'(by omega) := List.getElem_append_right hge
      have e2 : (ss ++ ss2)[i]'(by rw [List.length_append]; omega) = ss2[i - vs.length]'(by omega) := by
        rw [List.getElem_append_right (by omega)]; simp [hl]
      simp only [e1, e2]
      exact this
  · simp only [List.length_append] at hi hj
    rcases Nat.lt_or_ge i ss.length with hi1 | hi1 <;> rcases Nat.lt_or_ge j ss.length with hj1 | hj1
    · rw [List.getElem_append_left hi1, List.getElem_append_left hj1]
      exact h.nd i j hi1 hj1 hij
    · rw [List.getElem_append_left hi1, List.getElem_append_right hj1]
      cases hc : ss[i].ownBlock with
      | none => exact .inl rfl
      | some g => exact .inr fun he => key i (j - ss.length) hi1 (by omega) g hc he.symm
    · rw [List.getElem_append_right hi1, List.getElem_append_left hj1]
      cases hc : (ss2[i - ss.length]'(by omega)).ownBlock with
      | none => exact .inl rfl
      | some g => exact .inr fun he => key j (i - ss.length) hj1 (by omega) g he.symm hc
    · rw [List.getElem_append_right hi1, List.getElem_append_right hj1]
      exact h2.nd _ _ _ _ (by omega)
/-- Verbs behind verbs: all that are new have rows made since world w. -/
theorem OVb.cat {w7 w8 : World} {v8 v2 : Value} {vs2 : List Vb} {ss2 : List Value} {B2 : Nat} (h0 : OV w B v vs ss) (h : OV w7 B v vs ss) (h2 : OV w7 B2 v2 vs2 ss2) (hB : w.heap.size ≤ B2) (hB' : B ≤ B2)
    (hout : Has w8 B 64 2 v8 (vs.length + vs2.length) (zipC vs ss ++ zipC vs2 ss2)) (hg : w7.grownBy w8 v.ownBlock) : OV w8 B v8 (vs ++ vs2) (ss ++ ss2) :=
  h.catD h2 hB' (fun a b ha hb g q1 q2 => by
    have r1 := h0.old a ha g q1
    have r2 := ((h2.inn b (by rw [← h2.len]; exact hb)).lt g q2).1
    omega) hout hg
/-- One verb with a row made since world w. -/
theorem OVb.one_ {w7 : World} {s : Value} {x : Vb} {B2 : Nat} (hs : Has w7 B2 44 2 s x.2.length (x.2.flatMap ptC)) (hout : Has w7 B2 64 2 v 1 [.int .i64 x.1, s]) : OV w7 B2 v [x] [s] :=
  ⟨rfl, hout, fun i hi => by
    have : i = 0 := by simp at hi; exact hi
    subst this; exact hs, fun i j hi hj hij => by simp at hi hj; omega⟩
theorem OVb.push2 {w7 w8 : World} {v8 : Value} {x : Vb} {s : Value} (h0 : OV w B v vs ss) (h : OV w7 B v vs ss) (hs : Has w7 B 44 2 s x.2.length (x.2.flatMap ptC))
    (hfr : ∀ g, s.ownBlock = some g → w.heap.size ≤ g) (hout : Has w8 B 64 2 v8 (vs.length + 1) (zipC vs ss ++ [.int .i64 x.1, s])) (hg : w7.grownBy w8 v.ownBlock) : OV w8 B v8 (vs ++ [x]) (ss ++ [s]) := by
  refine h.snoc hs TP_ne_TV (fun i hi => ?_) hout hg
  have key : ∀ g, ss[i].ownBlock = some g → s.ownBlock = some g → False := fun g h1 h2 => by
    have := h0.old i hi g h1; have := hfr g h2; omega
  refine ⟨?_, ?_⟩
  · cases hc : ss[i].ownBlock with
    | none => exact .inl rfl
    | some g => exact .inr fun he => key g hc he.symm
  · cases hc : s.ownBlock with
    | none => exact .inl rfl
    | some g => exact .inr fun he => key g he.symm hc
theorem OVb.lt (h : OV w B v vs ss) : ∀ k, v.ownBlock = some k → B ≤ k := fun k hk => (h.out.lt k hk).1
/-- The first verbs. -/
theorem OVb.take {g cap m : Nat} (h : OV w B (.slice (some ⟨g, 0, none⟩) vs.length cap) vs ss) (hm : m ≤ vs.length) : OV w B (.slice (some ⟨g, 0, none⟩) (vs.take m).length cap) (vs.take m) (ss.take m) := by
  have hl := h.len
  have e : (vs.take m).length = m := by rw [List.length_take]; omega
  refine ⟨by simp [hl], ?_, fun i hi => ?_, fun i j hi hj hij => ?_⟩
  · rw [e]
    have := h.out.prefix_ hm
    have e2 : (zipC vs ss).take (m * 2) = zipC (vs.take m) (ss.take m) := by
      unfold zipC
      rw [flat_take (sz := 2) (fun _ => rfl) _ _ (by rw [List.length_zip, hl]; omega), List.zip_eq_zipWith, List.take_zipWith, List.zip_eq_zipWith]
    rw [e2] at this; exact this
  · rw [e] at hi
    simpa using h.inn i (by omega)
  · simp only [List.length_take] at hi hj
    simpa using h.nd i j (by omega) (by omega) hij
end
/-- The first verb, if there is one, is a move to a valid point. -/
def HdOk (vs : List Vb) : Prop := ∀ v, vs.head? = some v → ∃ p, vpB p = true ∧ v = (0, [p])
def PathN (vs : List Vb) : Prop := (∀ v ∈ vs, v.2.length ≤ 3) ∧ HdOk vs
def PathM (vs : List Vb) : Prop := PathN vs ∧ 0 < vs.length
theorem pathN_nil : PathN [] := ⟨by simp, fun v hv => by simp at hv⟩
theorem hdOk_app {vs us : List Vb} (h : HdOk vs) (h2 : HdOk us) : HdOk (vs ++ us) := by
  intro v hv
  cases vs with
  | nil => exact h2 v hv
  | cons a vs => exact h v hv
theorem hdOk_app0 {vs us : List Vb} (h : HdOk vs) (h0 : 0 < vs.length) : HdOk (vs ++ us) := by
  intro v hv
  cases vs with
  | nil => simp at h0
  | cons a vs => exact h v hv
theorem pathN_app {vs us : List Vb} (h : PathN vs) (h2 : ∀ v ∈ us, v.2.length ≤ 3) (h3 : HdOk us) : PathN (vs ++ us) :=
  ⟨fun v hv => by
    rcases List.mem_append.1 hv with hv | hv
    · exact h.1 v hv
    · exact h2 v hv, hdOk_app h.2 h3⟩
theorem pathM_move {vs : List Vb} (h : PathN vs) {p : Pt} (hp : VpP p) : PathM (vs ++ [(0, [p])]) :=
  ⟨pathN_app h (fun v hv => by simp at hv; subst hv; simp) (fun v hv => by simp at hv; subst hv; exact ⟨p, hp, rfl⟩), by simp⟩
theorem pathM_push {vs : List Vb} (h : PathM vs) {x : Vb} (hx : x.2.length ≤ 3) : PathM (vs ++ [x]) :=
  ⟨⟨fun v hv => by
    rcases List.mem_append.1 hv with hv | hv
    · exact h.1.1 v hv
    · simp at hv; subst hv; exact hx, hdOk_app0 h.1.2 h.2⟩, by simp⟩
theorem pathOk_one {vs : List Vb} (h : HdOk vs) (h0 : 0 < vs.length) : pathOk (vs.take 1) = true := by
  cases vs with
  | nil => simp at h0
  | cons a vs =>
    obtain ⟨p, hp, rfl⟩ := h a rfl
    simp [pathOk, vbOk, begB, manyOf, psB, ptsTo, inB, hp]
theorem hdOk_pathL {b : Bx} : HdOk (pathL (boxOk b) (boxPts b)).1 := by
  intro v hv
  unfold pathL at hv
  cases hb : boxOk b with
  | false => rw [hb] at hv; simp at hv
  | true =>
    rw [hb] at hv
    simp [polyV, boxPts] at hv
    subst hv
    refine ⟨_, ?_, rfl⟩
    unfold boxOk vbxB at hb
    simp only [Bool.and_eq_true, decide_eq_true_eq] at hb
    rw [vpB_iff]; dsimp only; omega
/-- A valid path drawn. -/
def DrewVbP (w w' : World) (e : Ending) (g N L : Nat) : Prop := ∃ A cap, ∃ vs : List Vb, ∃ ss, e = .returned (.slice A vs.length cap) ∧ (∀ v ∈ vs, v.2.length ≤ 41) ∧ vs.length ≤ L ∧ pathOk vs = true ∧ OV w' w.heap.size (.slice A vs.length cap) vs ss ∧ Rdr w' g N ∧ w.grownBy w' (some g)
/-- Verbs drawn, in rows of their own. -/
def DrewVbs (w w' : World) (e : Ending) (g N L : Nat) : Prop := ∃ A cap, ∃ vs : List Vb, ∃ ss, e = .returned (.slice A vs.length cap) ∧ (∀ v ∈ vs, v.2.length ≤ 41) ∧ vs.length ≤ L ∧ OV w' w.heap.size (.slice A vs.length cap) vs ss ∧ Rdr w' g N ∧ w.grownBy w' (some g)
set_option maxRecDepth 100000 in
set_option maxHeartbeats 8000000 in
theorem c_randomPathP (g N : Nat) (w : World) (h : Rdr w g N) (hN : N + 200 ≤ 1000000) :
    Calls Try.prog 42 #[.pointer (some ⟨g, 0, none⟩)] w fun e w' => DrewVbP w w' e g (N + 200) 18 := by
  have hlt := h.lt
  go_enter Try.func42, Try.ntmps42
  go_wp2_with fail
  have O0 : Hid (OV (w.alloc (.cells #[] 64)) w.heap.size (.slice (some ⟨w.heap.size, 0, none⟩) 0 0) [] []) := Lib.hid ⟨rfl, own_of_row (n := 0) (cs := []) (Row.new w _ []) (Nat.le_refl _) rfl (by decide), fun i hi => by simp at hi, fun i j hi => by simp at hi⟩
  have G0 : Hid (w.grownBy (w.alloc (.cells #[] 64)) (some g)) := Lib.hid (grown_ext (ext_alloc _ _))
  have H0 := Lib.hid (h.ext (ext_alloc w (.cells #[] 64)))
  refine (c_one g N _ 5 [1, 1, 2, 3, 0] _ (H0.out.ext (ext_alloc _ _)) (by omega) (ints_new (w.alloc (.cells #[] 64)) _ _ (by simp) rfl) (by simp) (by simp) (fun b off hA => by cases hA; omega)).mono ?_
  rintro e w1 ⟨v, rfl, hv, hr1, hg1⟩
  have hv : 0 ≤ v ∧ v ≤ 3 := by simp at hv; omega
  obtain ⟨L, rfl⟩ : ∃ L : Nat, v = (L : Int) := ⟨v.toNat, by omega⟩
  have O1 := Lib.hid ((O0.out.ext (ext_alloc _ _)).keptR (H0.out.ext (ext_alloc _ _)) hg1)
  have G1 := Lib.hid (grown_trans (grown_alloc G0.out _) hg1)
  have R1 := Lib.hid hr1
  clear hr1 hg1 h
  go_wp2_with fail
  go_loopw [3, 4, 5, 6, 7, 8, 9, 10] (fun v n _ _ _ _ _ _ wr => ∃ (m : Nat) (A : Option Addr) (cap : Nat) (vs : List Vb) (ss : List Value), n = .int .i64 m ∧ v = .slice A vs.length cap ∧ m ≤ 3 ∧ vs.length + 6 * m ≤ 18 ∧ PathN vs ∧ OV wr w.heap.size v vs ss ∧ Rdr wr g (N + 1 + 40 * (3 - m)) ∧ w.grownBy wr (some g)) (fun _ n _ _ _ _ _ _ _ => (intOf n).toNat)
  case atStart => exact ⟨L, _, 0, [], [], rfl, rfl, by omega, by simp; omega, pathN_nil, O1.out, R1.out.mono (by omega), G1.out⟩
  case round =>
    obtain ⟨m, A, cap, vs, ss, rfl, rfl, hm, hvl, hall, hov, hrd, hgr⟩ := hrel
    have Hov := Lib.hid hov
    have Hrd := Lib.hid hrd
    have Hgr := Lib.hid hgr
    have Hall := Lib.hid hall
    have hzr : w.heap.size ≤ wr.heap.size := hgr.size
    clear hov hrd hgr hall
    by_cases h0 : 0 < m
    · go_wp2_with fail
      refine (c_pick g _ 4 wr Hrd.out (by omega)).mono ?_
      rintro e w2 ⟨v2, rfl, _, hr2, hg2⟩
      have R2 := Lib.hid hr2
      have G2 := Lib.hid (grown_trans Hgr.out hg2)
      have O2 := Lib.hid (Hov.out.keptR Hrd.out hg2)
      have hz2 : w.heap.size ≤ w2.heap.size := G2.out.size
      clear hr2 hg2
      by_cases hv2 : v2 = 0
      · have hb2 : (v2 == 0) = true := by simp [hv2]
        clear hv2
        go_wp2_with fail
        refine (c_somePoint g _ w2 R2.out (by omega)).mono ?_
        rintro e w3 ⟨p, rfl, _, hr3, hg3⟩
        have R3 := Lib.hid hr3
        have G3 := Lib.hid (grown_trans G2.out hg3)
        have O3 := Lib.hid (O2.out.keptR R2.out hg3)
        clear hr3 hg3
        go_wp2_with fail
        refine (c_somePoint g _ w3 R3.out (by omega)).mono ?_
        rintro e w4 ⟨q, rfl, _, hr4, hg4⟩
        have R4 := Lib.hid hr4
        have G4 := Lib.hid (grown_trans G3.out hg4)
        have O4 := Lib.hid (O3.out.keptR R3.out hg4)
        clear hr4 hg4
        go_wp2_with fail
        refine (c_bounds _ 2 [p, q] _ (pts_new w4 _ _ rfl rfl) (by simp) (by simp)).mono ?_
        rintro e w5 ⟨rfl, hb5⟩
        have R5 := Lib.hid ((R4.out.ext (ext_alloc _ _)).ext hb5)
        have G5 := Lib.hid (only_ext (grown_alloc G4.out _) hb5)
        have O5 := Lib.hid ((O4.out.ext (ext_alloc _ _)).ext hb5)
        clear hb5
        generalize boxOfL [p, q] = B5
        go_wp2_with fail
        refine (c_tidy B5 w5).mono ?_
        rintro e w6 ⟨rfl, hb6⟩
        have R6 := Lib.hid (R5.out.ext hb6)
        have G6 := Lib.hid (only_ext G5.out hb6)
        have O6 := Lib.hid (O5.out.ext hb6)
        clear hb6
        generalize tidyL B5 = B6
        obtain ⟨l, t, r, bt⟩ := B6
        go_wp2_with fail
        refine (c_sBoxPath l t r bt w6).mono ?_
        have Hs : Hid (∀ v ∈ (pathL (boxOk (l, t, r, bt)) (boxPts (l, t, r, bt))).1, v.2.length ≤ 1) := Lib.hid (pathL_small _ _)
        have Hh : Hid (HdOk (pathL (boxOk (l, t, r, bt)) (boxPts (l, t, r, bt))).1) := Lib.hid hdOk_pathL
        have Hn : Hid ((pathL (boxOk (l, t, r, bt)) (boxPts (l, t, r, bt))).1.length ≤ 5) := Lib.hid (pathL_len _ _)
        generalize pathL (boxOk (l, t, r, bt)) (boxPts (l, t, r, bt)) = R at *
        obtain ⟨vs7, ok⟩ := R
        dsimp only at Hs Hn Hh
        have hn7 := Hn.out
        rintro e w7 ⟨A7, cap7, ss7, rfl, ho7, hb7⟩
        dsimp only at ho7
        have R7 := Lib.hid (R6.out.ext hb7)
        have G7 := Lib.hid (only_ext G6.out hb7)
        have O7 := Lib.hid (O6.out.ext hb7)
        have Q7 := Lib.hid ho7
        have hz6 : w.heap.size ≤ w6.heap.size := G6.out.size
        have hz7 : w.heap.size ≤ w7.heap.size := G7.out.size
        clear hb7 ho7
        cases ok
        · go_wp2_with fail
          refine (c_somePointV g _ w7 R7.out (by omega)).mono ?_
          rintro e w11 ⟨p1, rfl, hp1, hr11, hg11⟩
          have R11 := Lib.hid hr11
          have G11 := Lib.hid (grown_trans G7.out hg11)
          have O11 := Lib.hid (O7.out.keptR R7.out hg11)
          have hz11 : w.heap.size ≤ w11.heap.size := G11.out.size
          clear hr11 hg11
          go_wp2_with (at_builtin; refine wpList_app ei_vb rfl (.tmp 37) (.tmp 42) rfl rfl ((O11.out.ext (ext_alloc _ _)).ext (ext_alloc _ _)).out rfl (src_at _ _ [_, _] (m := 1) rfl (by intro u hu; simp at hu; rcases hu with rfl | rfl <;> rfl) (by simp)) (by omega) (by simp; omega) ?_; intro v12 w12 hown12 hg12 hat12)
          obtain ⟨A12, cap12, hv12⟩ := own_form hown12
          have O12 : Hid (OV w12 w.heap.size v12 (vs ++ [(0, [p1])]) (ss ++ [.slice (some ⟨w11.heap.size, 0, none⟩) 1 1])) := Lib.hid (OVb.push2 (w := w11) O11.out ((O11.out.ext (ext_alloc _ _)).ext (ext_alloc _ _)) (own_of_row (n := 1) ((Row.new w11 44 [.int .i64 p1.1, .int .i64 p1.2]).alloc _) hz11 rfl (by decide)) (fun g hg => by simp [Value.ownBlock] at hg; omega) hown12 hg12)
          have R12 := Lib.hid (((R11.out.ext (ext_alloc _ _)).ext (ext_alloc _ _)).grown hg12 (fun k hk => by have := O11.out.lt k hk; omega))
          have G12 := Lib.hid (grown_own (grown_alloc (grown_alloc G11.out _) _) hg12 (fun k hk => O11.out.lt k hk))
          have hv12' : v12 = .slice A12 (vs ++ [(0, [p1])]).length cap12 := by rw [hv12, List.length_append]; rfl
          have hall12 : Hid (PathM (vs ++ [(0, [p1])])) := Lib.hid (pathM_move Hall.out hp1)
          have hl12 : (vs ++ [(0, [p1])]).length + 6 * m ≤ 19 := by rw [List.length_append]; simp; omega
          generalize vs ++ [(0, [p1])] = vs12 at *
          generalize ss ++ [.slice (some ⟨w11.heap.size, 0, none⟩) 1 1] = ss12 at *
          clear hown12 hg12 hat12 hv12
          subst hv12'
          have hz12 : w.heap.size ≤ w12.heap.size := G12.out.size
          go_wp2_with fail
          refine (c_one g _ _ 5 [2, 3, 4, 1, 0] _ (R12.out.ext (ext_alloc _ _)) (by omega) (ints_new w12 _ _ rfl rfl) (by simp) (by simp) (fun b off hA => by cases hA; have := R12.out.lt; omega)).mono ?_
          rintro e w13 ⟨v13, rfl, hv13, hr13, hg13⟩
          have hv13 : 0 ≤ v13 ∧ v13 ≤ 4 := by simp at hv13; omega
          obtain ⟨L2, rfl⟩ : ∃ L : Nat, v13 = (L : Int) := ⟨v13.toNat, by omega⟩
          have O13 := Lib.hid ((O12.out.ext (ext_alloc _ _)).keptR (R12.out.ext (ext_alloc _ _)) hg13)
          have G13 := Lib.hid (grown_trans (grown_alloc G12.out _) hg13)
          have R13 := Lib.hid (hr13.mono (show _ ≤ N + 10 + 40 * (3 - m) by omega))
          clear hr13 hg13
          go_wp2_with fail
          obtain ⟨wo, rfl⟩ : ∃ wo : World, wo = wr := ⟨_, rfl⟩
          go_loopw [3, 7, 8, 9, 10] (fun v n _ _ _ wr => ∃ (j : Nat) (A : Option Addr) (cap : Nat) (vs : List Vb) (ss : List Value), n = .int .i64 j ∧ v = .slice A vs.length cap ∧ j ≤ 4 ∧ vs.length + j ≤ vs12.length + 4 ∧ PathM vs ∧ OV wr w.heap.size v vs ss ∧ Rdr wr g (N + 10 + 40 * (3 - m) + 7 * (4 - j)) ∧ w.grownBy wr (some g)) (fun _ n _ _ _ _ => (intOf n).toNat)
          case atStart => exact ⟨L2, A12, cap12, vs12, _, rfl, rfl, by omega, by omega, hall12.out, O13.out, R13.out.mono (by omega), G13.out⟩
          case round =>
            obtain ⟨j, A14, cap14, vs14, ss14, rfl, rfl, hj, hvl14, hall14, hov14, hrd14, hgr14⟩ := hrel
            have O14 := Lib.hid hov14
            have R14 := Lib.hid hrd14
            have G14 := Lib.hid hgr14
            have Hall14 := Lib.hid hall14
            have hz14 : w.heap.size ≤ wr.heap.size := hgr14.size
            clear hov14 hrd14 hgr14 hall14
            by_cases hj0 : 0 < j
            · go_wp2_with fail
              refine (c_one g _ _ 5 [1, 1, 1, 2, 3] _ (R14.out.ext (ext_alloc _ _)) (by omega) (ints_new wr _ _ rfl rfl) (by simp) (by simp) (fun b off hA => by cases hA; have := R14.out.lt; omega)).mono ?_
              rintro e w15 ⟨v15, rfl, hv15, hr15, hg15⟩
              have hv15 : 1 ≤ v15 ∧ v15 ≤ 3 := by simp at hv15; omega
              obtain ⟨kn, rfl⟩ : ∃ L : Nat, v15 = (L : Int) := ⟨v15.toNat, by omega⟩
              have O15 := Lib.hid ((O14.out.ext (ext_alloc _ _)).keptR (R14.out.ext (ext_alloc _ _)) hg15)
              have G15 := Lib.hid (grown_trans (grown_alloc G14.out _) hg15)
              have R15 := Lib.hid hr15
              have hz15 : w.heap.size ≤ w15.heap.size := G15.out.size
              have hgl15 : g < w15.heap.size := R15.out.lt
              clear hr15 hg15
              go_wp2_with fail
              obtain ⟨wo2, rfl⟩ : ∃ wo : World, wo = wr := ⟨_, rfl⟩
              go_loopw [9, 10] (fun v i wr => ∃ (i' : Nat) (A : Option Addr) (cap : Nat) (ps : List Pt), i = .int .i64 i' ∧ v = .slice A ps.length cap ∧ i' ≤ kn ∧ ps.length ≤ i' ∧ Has wr w15.heap.size 44 2 v ps.length (ps.flatMap ptC) ∧ Rdr wr g (N + 10 + 40 * (3 - m) + 7 * (4 - j) + 1 + 2 * i') ∧ w15.grownBy wr (some g)) (fun _ i _ => kn - (intOf i).toNat)
              case atStart => exact ⟨0, _, 0, [], rfl, rfl, by omega, by simp, own_of_row (n := 0) (cs := []) (Row.new w15 44 []) (Nat.le_refl _) rfl (by decide), (R15.out.ext (ext_alloc _ _)).mono (by omega), grown_ext (ext_alloc _ _)⟩
              case round =>
                obtain ⟨i', A16, cap16, ps, rfl, rfl, hi', hpl, hpo, hrd16, hgr16⟩ := hrel
                have P16 := Lib.hid hpo
                have R16 := Lib.hid hrd16
                have G16 := Lib.hid hgr16
                have hz16 : w15.heap.size ≤ wr.heap.size := hgr16.size
                clear hpo hrd16 hgr16
                by_cases hlt16 : i' < kn
                · go_wp2_with fail
                  refine (c_somePoint g _ wr R16.out (by omega)).mono ?_
                  rintro e w17 ⟨q, rfl, _, hr17, hg17⟩
                  have P17 := Lib.hid (P16.out.keptR R16.out PT_ne_RD hg17)
                  have R17 := Lib.hid hr17
                  have G17 := Lib.hid (grown_trans G16.out hg17)
                  have hz17 : w15.heap.size ≤ w17.heap.size := G17.out.size
                  clear hr17 hg17
                  go_wp2_with (at_builtin; refine wpList_app ei_pt rfl (.tmp 60) (.tmp 63) rfl rfl (own_ext P17.out (ext_alloc _ _)) rfl (src_new w17 _ [_, _] (m := 1) rfl (by intro u hu; simp at hu; rcases hu with rfl | rfl <;> rfl)) (by omega) (by simp; omega) ?_; intro v18 w18 hown18 hg18 hat18)
                  obtain ⟨A18, cap18, hv18⟩ := own_form hown18
                  have R18 := Lib.hid ((R17.out.ext (ext_alloc _ _)).grown hg18 (fun k hk => by have := (P17.out.lt k hk).1; omega))
                  have G18 := Lib.hid (grown_own (grown_alloc G17.out _) hg18 (fun k hk => (P17.out.lt k hk).1))
                  have P18 : Hid (Has w18 w15.heap.size 44 2 v18 (ps ++ [q]).length ((ps ++ [q]).flatMap ptC)) := Lib.hid (by
                    rw [List.flatMap_append, List.length_append]; exact hown18)
                  have hv18' : v18 = .slice A18 (ps ++ [q]).length cap18 := by rw [hv18]; simp
                  have hl18 : (ps ++ [q]).length ≤ i' + 1 := by simp; omega
                  generalize ps ++ [q] = ps18 at *
                  clear hown18 hg18 hat18 hv18
                  subst hv18'
                  go_wp2
                  go_roundw
                  case rel => exact ⟨i' + 1, A18, cap18, ps18, by go_num, rfl, by omega, by omega, P18.out, R18.out.mono (by omega), G18.out⟩
                  case measure => simp [intOf]; omega
                · have O16 := Lib.hid (O15.out.keptR R15.out G16.out)
                  have GG16 := Lib.hid (grown_trans G15.out G16.out)
                  go_wp2_with (at_builtin; refine wpList_app ei_vb rfl (.tmp 65) (.tmp 69) rfl rfl (O16.out.ext (ext_alloc _ _)).out rfl (src_new wr _ [_, _] (m := 1) rfl (by intro u hu; simp at hu; rcases hu with rfl | rfl <;> rfl)) (by omega) (by simp; omega) ?_; intro v19 w19 hown19 hg19 hat19)
                  obtain ⟨A19, cap19, hv19⟩ := own_form hown19
                  have O19 : Hid (OV w19 w.heap.size v19 (vs14 ++ [((kn : Int), ps)]) (ss14 ++ [.slice A16 ps.length cap16])) := Lib.hid (OVb.push2 (w := w15) O15.out (O16.out.ext (ext_alloc _ _)) (own_ext (P16.out.rebase hz15) (ext_alloc _ _)) (fun g hg => (P16.out.lt g hg).1) hown19 hg19)
                  have R19 := Lib.hid ((R16.out.ext (ext_alloc _ _)).grown hg19 (fun k hk => by have := O16.out.lt k hk; omega))
                  have G19 := Lib.hid (grown_own (grown_alloc GG16.out _) hg19 (fun k hk => O16.out.lt k hk))
                  have hv19' : v19 = .slice A19 (vs14 ++ [((kn : Int), ps)]).length cap19 := by rw [hv19, List.length_append]; rfl
                  have hall19 : Hid (PathM (vs14 ++ [((kn : Int), ps)])) := Lib.hid (pathM_push Hall14.out (by dsimp only; omega))
                  have hl19 : (vs14 ++ [((kn : Int), ps)]).length + (j - 1) ≤ vs12.length + 4 := by rw [List.length_append]; simp; omega
                  generalize vs14 ++ [((kn : Int), ps)] = vs19 at *
                  clear hown19 hg19 hat19 hv19
                  subst hv19'
                  go_wp2
                  go_roundw
                  case rel => exact ⟨j - 1, A19, cap19, vs19, _, by go_num, rfl, by omega, by omega, hall19.out, O19.out, R19.out.mono (by omega), G19.out⟩
                  case measure => simp [intOf]; omega
            · obtain rfl : j = 0 := by omega
              go_wp2_with fail
              refine (c_pick g _ 3 wr R14.out (by omega)).mono ?_
              rintro e w20 ⟨v20, rfl, _, hr20, hg20⟩
              have R20 := Lib.hid hr20
              have G20 := Lib.hid (grown_trans G14.out hg20)
              have O20 := Lib.hid (O14.out.keptR R14.out hg20)
              have hz20 : w.heap.size ≤ w20.heap.size := G20.out.size
              clear hr20 hg20
              by_cases hv20 : 0 < v20
              · go_wp2_with (at_builtin; refine wpList_app ei_vb rfl (.tmp 74) (.tmp 76) rfl rfl (O20.out.ext (ext_alloc _ _)).out rfl (src_new w20 _ [_, _] (m := 1) rfl (by intro u hu; simp at hu; rcases hu with rfl | rfl <;> rfl)) (by omega) (by simp; omega) ?_; intro v21 w21 hown21 hg21 hat21)
                obtain ⟨A21, cap21, hv21⟩ := own_form hown21
                have O21 : Hid (OV w21 w.heap.size v21 (vs14 ++ [(4, [])]) (ss14 ++ [.slice none 0 0])) := Lib.hid (OVb.push2 (w := w20) O20.out (O20.out.ext (ext_alloc _ _)) (own_nil _ _ _ _) (fun g hg => by cases hg) hown21 hg21)
                have R21 := Lib.hid ((R20.out.ext (ext_alloc _ _)).grown hg21 (fun k hk => by have := O20.out.lt k hk; omega))
                have G21 := Lib.hid (grown_own (grown_alloc G20.out _) hg21 (fun k hk => O20.out.lt k hk))
                have hv21' : v21 = .slice A21 (vs14 ++ [(4, [])]).length cap21 := by rw [hv21, List.length_append]; rfl
                have hall21 : Hid (PathM (vs14 ++ [(4, [])])) := Lib.hid (pathM_push Hall14.out (by simp))
                have hl21 : (vs14 ++ [(4, [])]).length + 6 * (m - 1) ≤ 18 := by rw [List.length_append]; simp; omega
                generalize vs14 ++ [(4, [])] = vs21 at *
                clear hown21 hg21 hat21 hv21
                subst hv21'
                go_wp2
                go_roundw
                case rel => exact ⟨m - 1, A21, cap21, vs21, _, by go_num, rfl, by omega, by omega, hall21.out.1, O21.out, R21.out.mono (by omega), G21.out⟩
                case measure => simp [intOf]; omega
              · go_wp2
                go_roundw
                case rel => exact ⟨m - 1, A14, cap14, vs14, _, by go_num, rfl, by omega, by omega, Hall14.out.1, O20.out, R20.out.mono (by omega), G20.out⟩
                case measure => simp [intOf]; omega
        · go_wp2_with (at_builtin; refine wpList_app ei_vb rfl (.tmp 34) (.tmp 35) rfl rfl O7.out.out rfl (Q7.out.out.src Q7.out.one) (by omega) (by omega) ?_; intro v8 w8 hown8 hg8 hat8)
          obtain ⟨A8, cap8, hv8⟩ := own_form hown8
          have O8 := Lib.hid (OVb.cat (w := w6) O6.out O7.out Q7.out (Nat.le_refl _) hz6 hown8 hg8)
          have R8 := Lib.hid (R7.out.grown hg8 (fun k hk => by have := O7.out.lt k hk; omega))
          have G8 := Lib.hid (grown_own G7.out hg8 (fun k hk => O7.out.lt k hk))
          have hv8' : v8 = .slice A8 (vs ++ vs7).length cap8 := by rw [hv8, List.length_append]
          have hall8 : Hid (PathN (vs ++ vs7)) := Lib.hid (pathN_app Hall.out (fun v hv => by have := Hs.out v hv; omega) Hh.out)
          have hl8 : (vs ++ vs7).length + 6 * (m - 1) ≤ 18 := by rw [List.length_append]; omega
          generalize vs ++ vs7 = vs8 at *
          clear hown8 hg8 hat8 hv8
          subst hv8'
          go_wp2
          go_roundw
          case rel => exact ⟨m - 1, A8, cap8, vs8, _, by go_num, rfl, by omega, by omega, hall8.out, O8.out, R8.out.mono (by omega), G8.out⟩
          case measure => simp [intOf]; omega
      · have hb2 : (v2 == 0) = false := by simp [hv2]
        clear hv2
        go_wp2_with fail
        refine (c_somePointV g _ w2 R2.out (by omega)).mono ?_
        rintro e w11 ⟨p1, rfl, hp1, hr11, hg11⟩
        have R11 := Lib.hid hr11
        have G11 := Lib.hid (grown_trans G2.out hg11)
        have O11 := Lib.hid (O2.out.keptR R2.out hg11)
        have hz11 : w.heap.size ≤ w11.heap.size := G11.out.size
        clear hr11 hg11
        go_wp2_with (at_builtin; refine wpList_app ei_vb rfl (.tmp 37) (.tmp 42) rfl rfl ((O11.out.ext (ext_alloc _ _)).ext (ext_alloc _ _)).out rfl (src_at _ _ [_, _] (m := 1) rfl (by intro u hu; simp at hu; rcases hu with rfl | rfl <;> rfl) (by simp)) (by omega) (by simp; omega) ?_; intro v12 w12 hown12 hg12 hat12)
        obtain ⟨A12, cap12, hv12⟩ := own_form hown12
        have O12 : Hid (OV w12 w.heap.size v12 (vs ++ [(0, [p1])]) (ss ++ [.slice (some ⟨w11.heap.size, 0, none⟩) 1 1])) := Lib.hid (OVb.push2 (w := w11) O11.out ((O11.out.ext (ext_alloc _ _)).ext (ext_alloc _ _)) (own_of_row (n := 1) ((Row.new w11 44 [.int .i64 p1.1, .int .i64 p1.2]).alloc _) hz11 rfl (by decide)) (fun g hg => by simp [Value.ownBlock] at hg; omega) hown12 hg12)
        have R12 := Lib.hid (((R11.out.ext (ext_alloc _ _)).ext (ext_alloc _ _)).grown hg12 (fun k hk => by have := O11.out.lt k hk; omega))
        have G12 := Lib.hid (grown_own (grown_alloc (grown_alloc G11.out _) _) hg12 (fun k hk => O11.out.lt k hk))
        have hv12' : v12 = .slice A12 (vs ++ [(0, [p1])]).length cap12 := by rw [hv12, List.length_append]; rfl
        have hall12 : Hid (PathM (vs ++ [(0, [p1])])) := Lib.hid (pathM_move Hall.out hp1)
        have hl12 : (vs ++ [(0, [p1])]).length + 6 * m ≤ 19 := by rw [List.length_append]; simp; omega
        generalize vs ++ [(0, [p1])] = vs12 at *
        generalize ss ++ [.slice (some ⟨w11.heap.size, 0, none⟩) 1 1] = ss12 at *
        clear hown12 hg12 hat12 hv12
        subst hv12'
        have hz12 : w.heap.size ≤ w12.heap.size := G12.out.size
        go_wp2_with fail
        refine (c_one g _ _ 5 [2, 3, 4, 1, 0] _ (R12.out.ext (ext_alloc _ _)) (by omega) (ints_new w12 _ _ rfl rfl) (by simp) (by simp) (fun b off hA => by cases hA; have := R12.out.lt; omega)).mono ?_
        rintro e w13 ⟨v13, rfl, hv13, hr13, hg13⟩
        have hv13 : 0 ≤ v13 ∧ v13 ≤ 4 := by simp at hv13; omega
        obtain ⟨L2, rfl⟩ : ∃ L : Nat, v13 = (L : Int) := ⟨v13.toNat, by omega⟩
        have O13 := Lib.hid ((O12.out.ext (ext_alloc _ _)).keptR (R12.out.ext (ext_alloc _ _)) hg13)
        have G13 := Lib.hid (grown_trans (grown_alloc G12.out _) hg13)
        have R13 := Lib.hid (hr13.mono (show _ ≤ N + 10 + 40 * (3 - m) by omega))
        clear hr13 hg13
        go_wp2_with fail
        obtain ⟨wo, rfl⟩ : ∃ wo : World, wo = wr := ⟨_, rfl⟩
        go_loopw [3, 7, 8, 9, 10] (fun v n _ _ _ wr => ∃ (j : Nat) (A : Option Addr) (cap : Nat) (vs : List Vb) (ss : List Value), n = .int .i64 j ∧ v = .slice A vs.length cap ∧ j ≤ 4 ∧ vs.length + j ≤ vs12.length + 4 ∧ PathM vs ∧ OV wr w.heap.size v vs ss ∧ Rdr wr g (N + 10 + 40 * (3 - m) + 7 * (4 - j)) ∧ w.grownBy wr (some g)) (fun _ n _ _ _ _ => (intOf n).toNat)
        case atStart => exact ⟨L2, A12, cap12, vs12, _, rfl, rfl, by omega, by omega, hall12.out, O13.out, R13.out.mono (by omega), G13.out⟩
        case round =>
          obtain ⟨j, A14, cap14, vs14, ss14, rfl, rfl, hj, hvl14, hall14, hov14, hrd14, hgr14⟩ := hrel
          have O14 := Lib.hid hov14
          have R14 := Lib.hid hrd14
          have G14 := Lib.hid hgr14
          have Hall14 := Lib.hid hall14
          have hz14 : w.heap.size ≤ wr.heap.size := hgr14.size
          clear hov14 hrd14 hgr14 hall14
          by_cases hj0 : 0 < j
          · go_wp2_with fail
            refine (c_one g _ _ 5 [1, 1, 1, 2, 3] _ (R14.out.ext (ext_alloc _ _)) (by omega) (ints_new wr _ _ rfl rfl) (by simp) (by simp) (fun b off hA => by cases hA; have := R14.out.lt; omega)).mono ?_
            rintro e w15 ⟨v15, rfl, hv15, hr15, hg15⟩
            have hv15 : 1 ≤ v15 ∧ v15 ≤ 3 := by simp at hv15; omega
            obtain ⟨kn, rfl⟩ : ∃ L : Nat, v15 = (L : Int) := ⟨v15.toNat, by omega⟩
            have O15 := Lib.hid ((O14.out.ext (ext_alloc _ _)).keptR (R14.out.ext (ext_alloc _ _)) hg15)
            have G15 := Lib.hid (grown_trans (grown_alloc G14.out _) hg15)
            have R15 := Lib.hid hr15
            have hz15 : w.heap.size ≤ w15.heap.size := G15.out.size
            have hgl15 : g < w15.heap.size := R15.out.lt
            clear hr15 hg15
            go_wp2_with fail
            obtain ⟨wo2, rfl⟩ : ∃ wo : World, wo = wr := ⟨_, rfl⟩
            go_loopw [9, 10] (fun v i wr => ∃ (i' : Nat) (A : Option Addr) (cap : Nat) (ps : List Pt), i = .int .i64 i' ∧ v = .slice A ps.length cap ∧ i' ≤ kn ∧ ps.length ≤ i' ∧ Has wr w15.heap.size 44 2 v ps.length (ps.flatMap ptC) ∧ Rdr wr g (N + 10 + 40 * (3 - m) + 7 * (4 - j) + 1 + 2 * i') ∧ w15.grownBy wr (some g)) (fun _ i _ => kn - (intOf i).toNat)
            case atStart => exact ⟨0, _, 0, [], rfl, rfl, by omega, by simp, own_of_row (n := 0) (cs := []) (Row.new w15 44 []) (Nat.le_refl _) rfl (by decide), (R15.out.ext (ext_alloc _ _)).mono (by omega), grown_ext (ext_alloc _ _)⟩
            case round =>
              obtain ⟨i', A16, cap16, ps, rfl, rfl, hi', hpl, hpo, hrd16, hgr16⟩ := hrel
              have P16 := Lib.hid hpo
              have R16 := Lib.hid hrd16
              have G16 := Lib.hid hgr16
              have hz16 : w15.heap.size ≤ wr.heap.size := hgr16.size
              clear hpo hrd16 hgr16
              by_cases hlt16 : i' < kn
              · go_wp2_with fail
                refine (c_somePoint g _ wr R16.out (by omega)).mono ?_
                rintro e w17 ⟨q, rfl, _, hr17, hg17⟩
                have P17 := Lib.hid (P16.out.keptR R16.out PT_ne_RD hg17)
                have R17 := Lib.hid hr17
                have G17 := Lib.hid (grown_trans G16.out hg17)
                have hz17 : w15.heap.size ≤ w17.heap.size := G17.out.size
                clear hr17 hg17
                go_wp2_with (at_builtin; refine wpList_app ei_pt rfl (.tmp 60) (.tmp 63) rfl rfl (own_ext P17.out (ext_alloc _ _)) rfl (src_new w17 _ [_, _] (m := 1) rfl (by intro u hu; simp at hu; rcases hu with rfl | rfl <;> rfl)) (by omega) (by simp; omega) ?_; intro v18 w18 hown18 hg18 hat18)
                obtain ⟨A18, cap18, hv18⟩ := own_form hown18
                have R18 := Lib.hid ((R17.out.ext (ext_alloc _ _)).grown hg18 (fun k hk => by have := (P17.out.lt k hk).1; omega))
                have G18 := Lib.hid (grown_own (grown_alloc G17.out _) hg18 (fun k hk => (P17.out.lt k hk).1))
                have P18 : Hid (Has w18 w15.heap.size 44 2 v18 (ps ++ [q]).length ((ps ++ [q]).flatMap ptC)) := Lib.hid (by
                  rw [List.flatMap_append, List.length_append]; exact hown18)
                have hv18' : v18 = .slice A18 (ps ++ [q]).length cap18 := by rw [hv18]; simp
                have hl18 : (ps ++ [q]).length ≤ i' + 1 := by simp; omega
                generalize ps ++ [q] = ps18 at *
                clear hown18 hg18 hat18 hv18
                subst hv18'
                go_wp2
                go_roundw
                case rel => exact ⟨i' + 1, A18, cap18, ps18, by go_num, rfl, by omega, by omega, P18.out, R18.out.mono (by omega), G18.out⟩
                case measure => simp [intOf]; omega
              · have O16 := Lib.hid (O15.out.keptR R15.out G16.out)
                have GG16 := Lib.hid (grown_trans G15.out G16.out)
                go_wp2_with (at_builtin; refine wpList_app ei_vb rfl (.tmp 65) (.tmp 69) rfl rfl (O16.out.ext (ext_alloc _ _)).out rfl (src_new wr _ [_, _] (m := 1) rfl (by intro u hu; simp at hu; rcases hu with rfl | rfl <;> rfl)) (by omega) (by simp; omega) ?_; intro v19 w19 hown19 hg19 hat19)
                obtain ⟨A19, cap19, hv19⟩ := own_form hown19
                have O19 : Hid (OV w19 w.heap.size v19 (vs14 ++ [((kn : Int), ps)]) (ss14 ++ [.slice A16 ps.length cap16])) := Lib.hid (OVb.push2 (w := w15) O15.out (O16.out.ext (ext_alloc _ _)) (own_ext (P16.out.rebase hz15) (ext_alloc _ _)) (fun g hg => (P16.out.lt g hg).1) hown19 hg19)
                have R19 := Lib.hid ((R16.out.ext (ext_alloc _ _)).grown hg19 (fun k hk => by have := O16.out.lt k hk; omega))
                have G19 := Lib.hid (grown_own (grown_alloc GG16.out _) hg19 (fun k hk => O16.out.lt k hk))
                have hv19' : v19 = .slice A19 (vs14 ++ [((kn : Int), ps)]).length cap19 := by rw [hv19, List.length_append]; rfl
                have hall19 : Hid (PathM (vs14 ++ [((kn : Int), ps)])) := Lib.hid (pathM_push Hall14.out (by dsimp only; omega))
                have hl19 : (vs14 ++ [((kn : Int), ps)]).length + (j - 1) ≤ vs12.length + 4 := by rw [List.length_append]; simp; omega
                generalize vs14 ++ [((kn : Int), ps)] = vs19 at *
                clear hown19 hg19 hat19 hv19
                subst hv19'
                go_wp2
                go_roundw
                case rel => exact ⟨j - 1, A19, cap19, vs19, _, by go_num, rfl, by omega, by omega, hall19.out, O19.out, R19.out.mono (by omega), G19.out⟩
                case measure => simp [intOf]; omega
          · obtain rfl : j = 0 := by omega
            go_wp2_with fail
            refine (c_pick g _ 3 wr R14.out (by omega)).mono ?_
            rintro e w20 ⟨v20, rfl, _, hr20, hg20⟩
            have R20 := Lib.hid hr20
            have G20 := Lib.hid (grown_trans G14.out hg20)
            have O20 := Lib.hid (O14.out.keptR R14.out hg20)
            have hz20 : w.heap.size ≤ w20.heap.size := G20.out.size
            clear hr20 hg20
            by_cases hv20 : 0 < v20
            · go_wp2_with (at_builtin; refine wpList_app ei_vb rfl (.tmp 74) (.tmp 76) rfl rfl (O20.out.ext (ext_alloc _ _)).out rfl (src_new w20 _ [_, _] (m := 1) rfl (by intro u hu; simp at hu; rcases hu with rfl | rfl <;> rfl)) (by omega) (by simp; omega) ?_; intro v21 w21 hown21 hg21 hat21)
              obtain ⟨A21, cap21, hv21⟩ := own_form hown21
              have O21 : Hid (OV w21 w.heap.size v21 (vs14 ++ [(4, [])]) (ss14 ++ [.slice none 0 0])) := Lib.hid (OVb.push2 (w := w20) O20.out (O20.out.ext (ext_alloc _ _)) (own_nil _ _ _ _) (fun g hg => by cases hg) hown21 hg21)
              have R21 := Lib.hid ((R20.out.ext (ext_alloc _ _)).grown hg21 (fun k hk => by have := O20.out.lt k hk; omega))
              have G21 := Lib.hid (grown_own (grown_alloc G20.out _) hg21 (fun k hk => O20.out.lt k hk))
              have hv21' : v21 = .slice A21 (vs14 ++ [(4, [])]).length cap21 := by rw [hv21, List.length_append]; rfl
              have hall21 : Hid (PathM (vs14 ++ [(4, [])])) := Lib.hid (pathM_push Hall14.out (by simp))
              have hl21 : (vs14 ++ [(4, [])]).length + 6 * (m - 1) ≤ 18 := by rw [List.length_append]; simp; omega
              generalize vs14 ++ [(4, [])] = vs21 at *
              clear hown21 hg21 hat21 hv21
              subst hv21'
              go_wp2
              go_roundw
              case rel => exact ⟨m - 1, A21, cap21, vs21, _, by go_num, rfl, by omega, by omega, hall21.out.1, O21.out, R21.out.mono (by omega), G21.out⟩
              case measure => simp [intOf]; omega
            · go_wp2
              go_roundw
              case rel => exact ⟨m - 1, A14, cap14, vs14, _, by go_num, rfl, by omega, by omega, Hall14.out.1, O20.out, R20.out.mono (by omega), G20.out⟩
              case measure => simp [intOf]; omega
    · obtain rfl : m = 0 := by omega
      go_wp2_with fail
      refine (c_sValidPath A cap vs wr Hov.out.in_ (by omega) (fun v hv => Nat.le_trans (Hall.out.1 v hv) (by decide))).mono ?_
      rintro e w2 ⟨rfl, hb2⟩
      have O2 := Lib.hid (Hov.out.ext hb2)
      have R2 := Lib.hid (Hrd.out.ext hb2)
      have G2 := Lib.hid (only_ext Hgr.out hb2)
      have hnil : Hid (vs = [] → pathOk vs = true) := Lib.hid (fun h => by subst h; rfl)
      clear hb2
      obtain ⟨d, hd⟩ : ∃ d, d = pathOk vs := ⟨_, rfl⟩
      rw [← hd]
      have Hd := Lib.hid hd
      clear hd
      cases d
      · have hpos : 0 < vs.length := by
          rcases Nat.eq_zero_or_pos vs.length with h | h
          · have := hnil.out (List.eq_nil_of_length_eq_zero h)
            rw [← Hd.out] at this; cases this
          · exact h
        obtain ⟨b, rfl, hb1, hb2⟩ := own_at O2.out.out hpos
        have hcap := O2.out.out.slok.2.1
        have hs1 : ∀ W, (Instr.slice 56 (.slice (some ⟨b, 0, none⟩) vs.length cap) none (some (.int .i64 1)) none).run Try.prog W = .ok (.slice (some ⟨b, 0, none⟩) 1 cap) W := fun W => run_slice_hi ei_vb _ _ _ 1 _ rfl (by omega) W
        have ht := Lib.hid (OVb.take (m := 1) O2.out (by omega))
        have e1 : (vs.take 1).length = 1 := by rw [List.length_take]; omega
        have E1 := Lib.hid e1
        clear e1
        go_wp2_with fail
        go_ret
        exact ⟨_, cap, vs.take 1, _, by rw [E1.out]; rfl, fun v hv => Nat.le_trans (Hall.out.1 v (List.mem_of_mem_take hv)) (by decide), by rw [E1.out]; decide, pathOk_one Hall.out.2 hpos, ht.out, R2.out.mono (by omega), G2.out⟩
      · go_wp2_with fail
        go_ret
        exact ⟨A, cap, vs, ss, rfl, fun v hv => Nat.le_trans (Hall.out.1 v hv) (by decide), by omega, Hd.out.symm, O2.out, R2.out.mono (by omega), G2.out⟩
theorem c_randomPath (g N : Nat) (w : World) (h : Rdr w g N) (hN : N + 200 ≤ 1000000) :
    Calls Try.prog 42 #[.pointer (some ⟨g, 0, none⟩)] w fun e w' => DrewVbs w w' e g (N + 200) 18 :=
  (c_randomPathP g N w h hN).mono fun _ _ ⟨A, cap, vs, ss, h1, h2, h3, _, h5⟩ => ⟨A, cap, vs, ss, h1, h2, h3, h5⟩
end Go.Proofs.Ytmoobdohhnficaa
