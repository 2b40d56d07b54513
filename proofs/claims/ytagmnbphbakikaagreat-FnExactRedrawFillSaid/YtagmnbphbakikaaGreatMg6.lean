/-
  Several texts in one: VbPut, VbOpen.
-/
import Derived.Test.YtagmnbphbakikaaGreatMg3
namespace Go.Proofs.YtagmnbphbakikaaGreat
open Go Go.RowKit Reg
attribute [local go_sem] calmAt calmUpon
theorem zipC_put {vs : List Vb} {ss : List Value} (h : ss.length = vs.length) {k : Nat} (hk : k < vs.length) (v : Vb) (s : Value) : ((zipC vs ss).set (k * 2) (.int .i64 v.1)).set (k * 2 + 1) s = zipC (vs.set k v) (ss.set k s) := by
  rw [zipC_set h hk v]
  apply List.ext_getElem?
  intro i
  have hl1 := zipC_len (vs := vs.set k v) (ss := ss) (by simpa using h)
  have hl2 := zipC_len (vs := vs.set k v) (ss := ss.set k s) (by simpa using h)
  rw [List.length_set] at hl1 hl2
  rcases Nat.lt_or_ge i (vs.length * 2) with hi | hi
  · have hj : i / 2 < vs.length := by omega
    obtain ⟨a1, a2⟩ := zipC_get (vs := vs.set k v) (ss := ss) (by simpa using h) (k := i / 2) (by simpa using hj)
    obtain ⟨b1, b2⟩ := zipC_get (vs := vs.set k v) (ss := ss.set k s) (by simpa using h) (k := i / 2) (by simpa using hj)
    rw [List.getElem?_set]
    rcases Nat.mod_two_eq_zero_or_one i with hm | hm
    · have e : i / 2 * 2 = i := by omega
      rw [e] at a1 b1
      rw [if_neg (by omega), a1, b1]
    · have e : i / 2 * 2 + 1 = i := by omega
      rw [e] at a2 b2
      by_cases hki : k * 2 + 1 = i
      · have hk2 : i / 2 = k := by omega
        rw [if_pos hki, if_pos (by omega), b2]
        simp [hk2]
      · rw [if_neg hki, a2, b2]
        have : k ≠ i / 2 := by omega
        simp [List.getElem_set_ne this]
  · rw [List.getElem?_eq_none (by simp; omega), List.getElem?_eq_none (by omega)]
section
variable {w w' : World} {B : Nat} {TP TV : TypeId} {vs : List Vb} {ss : List Value}
/-- Verb k is stored anew, its points in a newer row. -/
theorem OVb.put {g cap k B' : Nat} {q : Int} {ps : List Pt} {s : Value} (h : OVb w B TP TV (.slice (some ⟨g, 0, none⟩) vs.length cap) vs ss) (hT : TP ≠ TV) (hk : k < vs.length)
    (ho : Has w B' TP 2 s ps.length (ps.flatMap ptC)) (hB : B ≤ B') (hlt : ∀ (i : Nat) (hi : i < ss.length) b, ss[i].ownBlock = some b → b < B') :
    OVb ((w.setCell ⟨g, k * 2, none⟩ (.int .i64 q)).setCell ⟨g, k * 2 + 1, none⟩ s) B TP TV (.slice (some ⟨g, 0, none⟩) vs.length cap) (vs.set k (q, ps)) (ss.set k s) := by
  have hl := h.len
  have h1 := h.out.stored (k * 2) (.int .i64 q)
  have h2 := h1.1.stored (k * 2 + 1) s
  rw [zipC_put hl hk (q, ps) s] at h2
  refine ⟨by simp [hl], by rw [List.length_set]; exact h2.1, fun i hi => ?_, fun i j hi hj hij => ?_⟩
  · rw [List.length_set] at hi
    by_cases hik : k = i
    · subst hik
      simp only [List.getElem_set_self]
      have e1 : s.ownBlock = none ∨ s.ownBlock ≠ some g := by
        have := own_ne ho h.out hT
        simpa [Value.ownBlock] using this
      exact ((ho.kept h1.2 e1).kept h2.2 e1).rebase hB
    · simp only [List.getElem_set_ne hik]
      have e1 := own_ne (h.inn i hi) h.out hT
      have e2 : ss[i].ownBlock = none ∨ ss[i].ownBlock ≠ some g := by simpa [Value.ownBlock] using e1
      exact ((h.inn i hi).kept h1.2 e2).kept h2.2 e2
  · rw [List.length_set] at hi hj
    have hold : ∀ (q : Nat) (hq : q < ss.length), ss[q].ownBlock = none ∨ ss[q].ownBlock ≠ s.ownBlock := fun q hq => by
      cases hc : ss[q].ownBlock with
      | none => exact .inl rfl
      | some b => exact .inr fun hh => by have q1 := hlt q hq b hc; have q2 := (ho.lt b hh.symm).1; omega
    by_cases c1 : k = i
    · subst c1
      rw [List.getElem_set_self, List.getElem_set_ne hij]
      cases hc : s.ownBlock with
      | none => exact .inl rfl
      | some b => exact .inr fun hh => by have q1 := hlt j hj b hh.symm; have q2 := (ho.lt b hc).1; omega
    · by_cases c2 : k = j
      · subst c2
        rw [List.getElem_set_self, List.getElem_set_ne (Ne.symm hij)]
        exact hold i hi
      · rw [List.getElem_set_ne c1, List.getElem_set_ne c2]
        exact h.nd i j hi hj hij
theorem OVb.blk {v : Value} (h : OVb w B TP TV v vs ss) : ∀ (i : Nat) (hi : i < ss.length) g, ss[i].ownBlock = some g → B ≤ g ∧ g < w.heap.size := fun i hi g hg =>
  (h.inn i (by rw [← h.len]; exact hi)).lt g hg
end
/-! ### verbs whose points' slices are sound -/
def verbK : World → Vb → List Value → Prop := fun w v us => ∃ A cap, us = [.int .i64 v.1, .slice A v.2.length cap] ∧ Pts w A v.2 ∧ SlOk A v.2.length cap
theorem verbK_stab : Stab verbK := by
  rintro w w' v us ⟨A, cap, h1, h2, h3⟩ hx
  exact ⟨A, cap, h1, h2.ext ptR_stab hx, h3⟩
abbrev VbK (w : World) (A : Option Addr) (vs : List Vb) : Prop := In verbK 2 w A vs
theorem In.toV {w : World} {A : Option Addr} {vs : List Vb} (h : VbK w A vs) : Vbs w A vs := by
  intro hn
  obtain ⟨b, off, hA, hc⟩ := h hn
  refine ⟨b, off, hA, fun k hk => ?_⟩
  obtain ⟨us, ⟨A', cap, h1, h2, _⟩, h3⟩ := hc k hk
  exact ⟨us, ⟨A', cap, h1, h2⟩, h3⟩
theorem In.vbk {w : World} {A : Option Addr} {vs : List Vb} (h : VbK w A vs) (hn : 0 < vs.length) : ∃ b off, A = some ⟨b, off, none⟩ ∧ b < w.heap.size ∧
    ∀ (k : Nat) (h : k < vs.length), ∃ A' cap, w.cell? ⟨b, off + k * 2, none⟩ = some (.int .i64 vs[k].1) ∧ w.cell? ⟨b, off + k * 2 + 1, none⟩ = some (.slice A' vs[k].2.length cap) ∧ Pts w A' vs[k].2 ∧ SlOk A' vs[k].2.length cap := by
  have hlt := h.lt (by omega) hn
  obtain ⟨b, off, hA, hc⟩ := h hn
  refine ⟨b, off, hA, hlt b off hA, fun k hk => ?_⟩
  obtain ⟨us, ⟨A', cap, h1, h2, h4⟩, _, h3⟩ := hc k hk
  subst h1
  exact ⟨A', cap, h3 0 _ rfl, h3 1 _ rfl, h2, h4⟩
theorem OVb.inK {w : World} {B : Nat} {TP TV : TypeId} {vs : List Vb} {ss : List Value} {A : Option Addr} {cap : Nat} (h : OVb w B TP TV (.slice A vs.length cap) vs ss) : VbK w A vs := by
  intro hn
  obtain ⟨g, hA, _, _⟩ := own_at h.out hn
  subst hA
  refine ⟨g, 0, rfl, fun k hk => ?_⟩
  have hi := h.inn k hk
  obtain ⟨A', cap', hs⟩ := own_form hi
  rw [hs] at hi
  obtain ⟨z0, z1⟩ := zipC_get h.len hk
  refine ⟨[.int .i64 vs[k].1, .slice A' vs[k].2.length cap'], ⟨A', cap', rfl, own_in (enc := ptC) ptC_len (by decide) hi (fun _ => rfl), hi.slok⟩, rfl, fun j u hu => ?_⟩
  rw [Nat.zero_add]
  match j, hu with
  | 0, hu =>
    simp at hu; subst hu
    rw [Nat.add_zero, h.out.cellAt _ (by omega), z0]
  | 1, hu =>
    simp at hu; subst hu
    rw [h.out.cellAt _ (by omega), z1, hs]
abbrev nilSV : Value := .slice none 0 0
/-- The first k verbs, and empty ones behind them. -/
def vbTo (vs : List Vb) (k : Nat) : List Vb := vs.take k ++ List.replicate (vs.length - k) (0, [])
theorem vbTo_len {vs : List Vb} {k : Nat} (h : k ≤ vs.length) : (vbTo vs k).length = vs.length := by simp [vbTo]; omega
theorem vbTo_all (vs : List Vb) : vbTo vs vs.length = vs := by simp [vbTo]
theorem vbTo_set {vs : List Vb} {k : Nat} (h : k < vs.length) : (vbTo vs k).set k vs[k] = vbTo vs (k + 1) := by
  unfold vbTo
  have e : vs.length - k = (vs.length - (k + 1)) + 1 := by omega
  have e2 : (vs.take k).length = k := by rw [List.length_take]; omega
  rw [List.set_append_right _ _ (by omega), e2, Nat.sub_self, e, List.replicate_succ, List.set_cons_zero, List.take_succ_eq_append_getElem h, List.append_assoc]; rfl
theorem vbTo_get {vs : List Vb} {k : Nat} (h : k < vs.length) : (vbTo vs k)[k]'(by rw [vbTo_len (by omega)]; exact h) = (0, []) := by
  unfold vbTo
  have e2 : (vs.take k).length = k := by rw [List.length_take]; omega
  rw [List.getElem_append_right (by omega)]
  simp
theorem zipC_zero (n : Nat) : zipC (List.replicate n ((0, []) : Vb)) (List.replicate n nilSV) = (List.replicate n [Value.int .i64 0, nilSV]).flatten := by
  induction n with
  | zero => rfl
  | succ n ih => simp only [List.replicate_succ, zipC, List.zip_cons_cons, List.flatMap_cons, List.flatten_cons] at *; rw [ih]
/-- A row of empty verbs, just made. -/
theorem OVb.made {w : World} {B g n : Nat} {TP TV : TypeId} (h : Row w g TV (List.replicate n [Value.int .i64 0, nilSV]).flatten) (hB : B ≤ g) (hn : n ≤ 1000000000000) : OVb w B TP TV (.slice (some ⟨g, 0, none⟩) n n) (List.replicate n (0, [])) (List.replicate n nilSV) := by
  refine ⟨by simp, ?_, fun i hi => ?_, fun i j hi hj hij => ?_⟩
  · rw [zipC_zero, List.length_replicate]
    exact own_of_row h hB (by simp [List.length_flatten]) hn
  · simp only [List.getElem_replicate]; exact own_nil _ _ _ _
  · simp only [List.getElem_replicate]; exact .inl rfl
theorem vbTo_zero (vs : List Vb) : vbTo vs 0 = List.replicate vs.length (0, []) := by simp [vbTo]
/-- How many points verbs have together. -/
def vbSum (vs : List Vb) : Nat := (vs.map (fun v => v.2.length)).sum
theorem vbSum_take {vs : List Vb} {k : Nat} (h : k < vs.length) : vbSum (vs.take (k + 1)) = vbSum (vs.take k) + vs[k].2.length := by
  unfold vbSum
  rw [List.take_succ_eq_append_getElem h, List.map_append, List.sum_append]
  simp
theorem vbSum_le (vs : List Vb) (k : Nat) : vbSum (vs.take k) ≤ vbSum vs := by
  have : vbSum vs = vbSum (vs.take k) + vbSum (vs.drop k) := by
    unfold vbSum
    rw [← List.sum_append, ← List.map_append, List.take_append_drop]
  omega
theorem vbSum_mem {vs : List Vb} {v : Vb} (h : v ∈ vs) : v.2.length ≤ vbSum vs := by
  obtain ⟨k, hk, rfl⟩ := List.getElem_of_mem h
  have h1 := vbSum_take hk
  have h2 := vbSum_le vs (k + 1)
  omega
theorem endV_eq (k : Int) (vs : List Vb) : endV k vs = k + (vs.length : Int) + 2 * (vbSum vs : Nat) := by
  induction vs generalizing k with
  | nil => simp [endV, vbSum]
  | cons v vs ih =>
    rw [endV, ih]
    have : vbSum (v :: vs) = v.2.length + vbSum vs := by simp [vbSum]
    rw [this, List.length_cons]
    push_cast
    omega
set_option maxHeartbeats 400000 in
theorem c_szVerb (q : Int) (A : Option Addr) (n cap : Nat) (left : Int) (w : World) (h0 : 0 ≤ left) (h1 : left ≤ 4611686018427387904) (hn : n ≤ 9223372036854775807) :
    Calls Tryz.prog 62 #[.agg #[.int .i64 q, .slice A n cap], .int .i64 left] w fun e w' => e = .returned (.int .i64 (if left - n < 0 then -1 else left - n)) ∧ Below w.heap.size w w' := by
  have K := Lib.hid (fun W => c_szPointS A n cap left W h0 h1 hn)
  by_cases h : left - (n : Int) < 0
  · have hv : (if left - (n : Int) < 0 then (-1 : Int) else left - n) = -1 := if_pos h
    have Hv := Lib.hid hv
    rw [hv]
    clear hv
    go_enter Tryz.func62, Tryz.ntmps62
    go_wp2_with fail
    refine (K.out _).mono ?_; rw [Hv.out]; rintro e w0 ⟨rfl, rfl⟩
    go_wp2
    go_ret
    exact ⟨rfl, (by repeat (first | exact Below.refl _ _ | assumption | refine Below.drew ?_ | refine Below.alloc ?_ (by first | exact Nat.le_refl _ | omega | (simp; done) | (simp; omega)) _ | refine Below.setCell ?_ (by first | exact Nat.le_refl _ | omega | (simp; done) | (simp; omega)) _))⟩
  · have hv : (if left - (n : Int) < 0 then (-1 : Int) else left - n) = left - n := if_neg h
    have Hv := Lib.hid hv
    rw [hv]
    clear hv
    go_enter Tryz.func62, Tryz.ntmps62
    go_wp2_with fail
    refine (K.out _).mono ?_; rw [Hv.out]; rintro e w0 ⟨rfl, rfl⟩
    go_wp2
    go_ret
    exact ⟨rfl, (by repeat (first | exact Below.refl _ _ | assumption | refine Below.drew ?_ | refine Below.alloc ?_ (by first | exact Nat.le_refl _ | omega | (simp; done) | (simp; omega)) _ | refine Below.setCell ?_ (by first | exact Nat.le_refl _ | omega | (simp; done) | (simp; omega)) _))⟩
set_option maxRecDepth 100000 in
set_option maxHeartbeats 2000000 in
theorem c_szVerbS (A : Option Addr) (cap : Nat) (vs : List Vb) (w : World) (h : Vbs w A vs) (hl : vs.length ≤ 9223372036854775807) (hb : ∀ v ∈ vs, v.2.length ≤ 9223372036854775807) :
    Calls Tryz.prog 25 #[.slice A vs.length cap, .int .i64 1048576] w fun e w' => ∃ m : Int, e = .returned (.int .i64 m) ∧ (0 ≤ m → (vs.length ≤ 1048576 ∧ vbSum vs ≤ 1048576) ∧ ∀ v ∈ vs, v.2.length ≤ 1048576) ∧ Below w.heap.size w w' := by
  have H := Lib.hid h
  have Hb := Lib.hid hb
  clear h hb
  by_cases hn : (1048576 : Int) - vs.length < 0
  · go_enter Tryz.func25, Tryz.ntmps25
    go_wp2
    go_ret
    exact ⟨-1, rfl, fun h => by omega, Below.refl _ _⟩
  · go_enter Tryz.func25, Tryz.ntmps25
    go_wp2_with fail
    go_loopw [1, 5] (fun l i wr => ∃ (k : Nat) (m : Int), k ≤ vs.length ∧ i = .int .i64 k ∧ l = .int .i64 m ∧ 0 ≤ m ∧ m + vbSum (vs.take k) ≤ 1048576 ∧ (∀ v ∈ vs.take k, v.2.length ≤ 1048576) ∧ Ext w wr) (fun _ i _ => vs.length - (intOf i).toNat)
    case atStart => exact ⟨0, _, Nat.zero_le _, rfl, rfl, by omega, by simp [vbSum]; omega, fun r hr => by simp at hr, Below.refl _ _⟩
    case round =>
      obtain ⟨k, m, hk, rfl, rfl, hm0, hm1, hal, hbw⟩ := hrel
      have E := Lib.hid hbw
      have Hal := Lib.hid hal
      clear hbw hal
      by_cases hlt : k < vs.length
      · obtain ⟨b, off, hA, _, hc⟩ := (H.out.ext verbR_stab E.out).vbs (by omega)
        obtain ⟨A', cap', cx, cy, hp⟩ := hc k hlt
        have hz := Hb.out _ (List.getElem_mem hlt)
        have hvt := vbSum_take hlt
        have Hal2 : Hid (vs[k].2.length ≤ 1048576 → ∀ r ∈ vs.take (k + 1), r.2.length ≤ 1048576) := Lib.hid (fun h1 r hr => by
          rw [List.take_succ_eq_append_getElem hlt] at hr
          rcases List.mem_append.1 hr with hr | hr
          · exact Hal.out r hr
          · simp at hr; subst hr; exact h1)
        clear hc hp
        generalize vs[k] = v at *
        obtain ⟨q, ps⟩ := v
        dsimp only at cx cy hz Hal2 hvt
        subst hA
        by_cases hd : m - (ps.length : Int) < 0
        · have hv : (if m - (ps.length : Int) < 0 then (-1 : Int) else m - ps.length) = -1 := if_pos hd
          have Hv := Lib.hid hv
          clear hv
          go_wp2_with fail
          refine (c_szVerb q A' ps.length cap' m _ hm0 (by omega) (by omega)).mono ?_; rw [Hv.out]; rintro e w0 ⟨rfl, hb0⟩
          replace E := Lib.hid (Ext.trans E.out (Ext.trans (by repeat (first | exact Below.refl _ _ | assumption | refine Below.drew ?_ | refine Below.alloc ?_ (by first | exact Nat.le_refl _ | omega | (simp; done) | (simp; omega)) _ | refine Below.setCell ?_ (by first | exact Nat.le_refl _ | omega | (simp; done) | (simp; omega)) _)) hb0))
          clear hb0
          go_wp2
          go_ret
          exact ⟨-1, rfl, fun h => by omega, E.out⟩
        · have hv : (if m - (ps.length : Int) < 0 then (-1 : Int) else m - ps.length) = m - ps.length := if_neg hd
          have Hv := Lib.hid hv
          clear hv
          go_wp2_with fail
          refine (c_szVerb q A' ps.length cap' m _ hm0 (by omega) (by omega)).mono ?_; rw [Hv.out]; rintro e w0 ⟨rfl, hb0⟩
          replace E := Lib.hid (Ext.trans E.out (Ext.trans (by repeat (first | exact Below.refl _ _ | assumption | refine Below.drew ?_ | refine Below.alloc ?_ (by first | exact Nat.le_refl _ | omega | (simp; done) | (simp; omega)) _ | refine Below.setCell ?_ (by first | exact Nat.le_refl _ | omega | (simp; done) | (simp; omega)) _)) hb0))
          clear hb0
          go_wp2
          go_roundw
          case rel => exact ⟨k + 1, m - ps.length, by omega, by go_num, rfl, by omega, by omega, Hal2.out (by omega), E.out⟩
          case measure => simp [intOf]; omega
      · have hk' : k = vs.length := by omega
        have Hf : Hid (∀ v ∈ vs, v.2.length ≤ 1048576) := Lib.hid (by have := Hal.out; rw [hk', List.take_length] at this; exact this)
        go_wp2
        go_ret
        rw [hk', List.take_length] at hm1
        exact ⟨m, rfl, fun _ => ⟨⟨by omega, by omega⟩, Hf.out⟩, E.out⟩
set_option maxRecDepth 100000 in
set_option maxHeartbeats 1000000 in
theorem c_toVerb (q : Int) (A : Option Addr) (cap : Nat) (ps : List Pt) (w : World) (h : Pts w A ps) (hl : ps.length ≤ 1048576) :
    Calls Tryz.prog 74 #[.agg #[.int .i64 q, .slice A ps.length cap]] w fun e w' => ∃ b, e = .returned (.agg #[.int .i64 q, .slice (some ⟨b, 0, none⟩) ps.length ps.length]) ∧ w.heap.size ≤ b ∧ Row w' b 45 (ps.flatMap ptC) ∧ Below w.heap.size w w' := by
  go_enter Tryz.func74, Tryz.ntmps74
  go_wp2_with fail
  refine (c_toPointS A cap ps _ (h.ext ptR_stab (by repeat (first | exact Below.refl _ _ | assumption | refine Below.drew ?_ | refine Below.alloc ?_ (by first | exact Nat.le_refl _ | omega | (simp; done) | (simp; omega)) _ | refine Below.setCell ?_ (by first | exact Nat.le_refl _ | omega | (simp; done) | (simp; omega)) _))) hl).mono ?_
  rintro e w1 ⟨b, rfl, hb, hr, hx⟩
  have E := Lib.hid (Ext.trans ((by repeat (first | exact Below.refl _ _ | assumption | refine Below.drew ?_ | refine Below.alloc ?_ (by first | exact Nat.le_refl _ | omega | (simp; done) | (simp; omega)) _ | refine Below.setCell ?_ (by first | exact Nat.le_refl _ | omega | (simp; done) | (simp; omega)) _)) : Below w.heap.size w _) hx)
  have R := Lib.hid hr
  have hb2 : w.heap.size ≤ b := by first | omega | (simp only [World.size_alloc] at hb; omega)
  have r3 : Row w1 (w.heap.size + 1 + 1) 128 [.int .i64 q, .slice none 0 0] := Row.ext (by
    have := Row.new ((w.alloc (Obj.cells #[Value.int IntKind.i64 q, Value.slice A ps.length cap] 109)).alloc (Obj.cells #[Value.int IntKind.i64 0, Value.slice none 0 0] 128)) 128 [.int .i64 q, .slice none 0 0]
    simpa only [World.size_alloc] using this) hx
  have r2 : Row w1 (w.heap.size + 1) 128 [.int .i64 0, .slice none 0 0] := Row.ext (by
    have := (Row.new (w.alloc (Obj.cells #[Value.int IntKind.i64 q, Value.slice A ps.length cap] 109)) 128 [.int .i64 0, .slice none 0 0]).alloc (Obj.cells #[Value.int IntKind.i64 q, Value.slice none 0 0] 128)
    simpa only [World.size_alloc] using this) hx
  have c30 := r3.cell_of (i := 0) rfl
  have c31 := r3.cell_of (i := 1) rfl
  have f30 := r3.frozen 0
  have f31 := r3.frozen 1
  have c20 := r2.cell_of (i := 0) rfl
  have c21 := r2.cell_of (i := 1) rfl
  have f20 := r2.frozen 0
  have f21 := r2.frozen 1
  clear hx hr
  go_wp2
  have hbs : w.heap.size + 1 + 1 < b := by first | omega | (simp only [World.size_alloc] at hb; omega)
  have q1 := (r2.far (p := ⟨w.heap.size + 1 + 1, 1, none⟩) (by show w.heap.size + 1 ≠ w.heap.size + 1 + 1; omega) (.slice (some ⟨b, 0, none⟩) ps.length ps.length)).set_ 0 (.int .i64 q)
  have q2 := q1.set_ 1 (.slice (some ⟨b, 0, none⟩) ps.length ps.length)
  have g2 := q2.cell_of (i := 0) rfl
  have g3 := q2.cell_of (i := 1) rfl
  exact bodyPost_ret (v := .agg #[.int .i64 q, .slice (some ⟨b, 0, none⟩) ps.length ps.length]) (by simp [results, Tryz.results74, go_sem, g2, g3]) rfl ⟨b, rfl, hb2, ((R.out.far (by show b ≠ w.heap.size + 1 + 1; omega) _).far (by show b ≠ w.heap.size + 1; omega) _).far (by show b ≠ w.heap.size + 1; omega) _, ((E.out.setCell (by simp; omega) _).setCell (by simp) _).setCell (by simp) _⟩
set_option maxRecDepth 100000 in
set_option maxHeartbeats 2000000 in
theorem c_toVerbS (A : Option Addr) (cap : Nat) (vs : List Vb) (w : World) (h : Vbs w A vs) (hl : vs.length ≤ 1048576) (hs : ∀ v ∈ vs, v.2.length ≤ 1048576) :
    Calls Tryz.prog 35 #[.slice A vs.length cap] w fun e w' => ∃ b ss, e = .returned (.slice (some ⟨b, 0, none⟩) vs.length vs.length) ∧ OVb w' w.heap.size 45 128 (.slice (some ⟨b, 0, none⟩) vs.length vs.length) vs ss ∧ Below w.heap.size w w' := by
  have H := Lib.hid h
  have Hs := Lib.hid hs
  have hmk := fun W => run_make_fill ei_vb (fun _ : Vb => [Value.int .i64 0, nilSV]) vs (by omega) W
  have hz : fillC (fun _ : Vb => [Value.int .i64 0, nilSV]) [.int .i64 0, nilSV] vs 0 = (List.replicate vs.length [Value.int .i64 0, nilSV]).flatten := by simp [fillC]
  have Hz := Lib.hid hz
  clear h hs hz
  go_enter Tryz.func35, Tryz.ntmps35
  go_wp2_with fail
  go_loopw [4] (fun i wr => ∃ (k : Nat) (ss : List Value), k ≤ vs.length ∧ i = .int .i64 k ∧ OVb wr w.heap.size 45 128 (.slice (some ⟨w.heap.size, 0, none⟩) vs.length vs.length) (vbTo vs k) ss ∧ Ext w wr) (fun i _ => vs.length - (intOf i).toNat)
  case atStart => exact ⟨0, _, Nat.zero_le _, rfl, by rw [vbTo_zero, Hz.out]; exact OVb.made (Row.new w 128 _) (Nat.le_refl _) (by omega), ext_alloc _ _⟩
  case round =>
    obtain ⟨k, ss, hk, rfl, hov, hbw⟩ := hrel
    have E := Lib.hid hbw
    have C := Lib.hid hov
    clear hbw hov hmk
    by_cases hlt : k < vs.length
    · obtain ⟨b, off, hA, _, hc⟩ := (H.out.ext verbR_stab E.out).vbs (by omega)
      obtain ⟨A', cap', cx, cy, hp⟩ := hc k hlt
      have Hp := Lib.hid hp
      have h2 := Hs.out _ (List.getElem_mem hlt)
      have Hset := Lib.hid (vbTo_set hlt)
      have Hget := Lib.hid (vbTo_get hlt)
      have Hlen := Lib.hid (vbTo_len hk)
      have hzz : w.heap.size < wr.heap.size := (C.out.out.lt _ rfl).2
      clear hc hp
      generalize vs[k] = v at *
      obtain ⟨q, ps⟩ := v
      dsimp only at cx cy Hp h2
      subst hA
      go_wp2_with fail
      refine (c_toVerb q A' cap' ps _ (Hp.out.ext ptR_stab (by repeat (first | exact Below.refl _ _ | assumption | refine Below.drew ?_ | refine Below.alloc ?_ (by first | exact Nat.le_refl _ | omega | (simp; done) | (simp; omega)) _ | refine Below.setCell ?_ (by first | exact Nat.le_refl _ | omega | (simp; done) | (simp; omega)) _))) h2).mono ?_
      rintro e w1 ⟨g, rfl, hg, hr1, hb1⟩
      have X := Lib.hid (Ext.trans ((by repeat (first | exact Below.refl _ _ | assumption | refine Below.drew ?_ | refine Below.alloc ?_ (by first | exact Nat.le_refl _ | omega | (simp; done) | (simp; omega)) _ | refine Below.setCell ?_ (by first | exact Nat.le_refl _ | omega | (simp; done) | (simp; omega)) _)) : Below wr.heap.size wr _) hb1)
      have C1 : Hid (OVb w1 w.heap.size 45 128 (.slice (some ⟨w.heap.size, 0, none⟩) (vbTo vs k).length vs.length) (vbTo vs k) ss) := Lib.hid (by rw [Hlen.out]; exact C.out.ext X.out)
      have E1 := Lib.hid (Ext.trans E.out X.out)
      have R1 := Lib.hid hr1
      have hjm : k < (vbTo vs k).length := by rw [Hlen.out]; exact hlt
      obtain ⟨z0, z1⟩ := zipC_get C1.out.len hjm
      have hzl := zipC_len C1.out.len
      have hn2 := C1.out.out.1
      have c0 := (C1.out.out.cellAt (k * 2) (by omega)).trans z0
      have c1 := (C1.out.out.cellAt (k * 2 + 1) (by omega)).trans z1
      have f0 := C1.out.out.frozenAt (k * 2)
      have f1 := C1.out.out.frozenAt (k * 2 + 1)
      have hg2 : wr.heap.size ≤ g := by first | omega | (simp only [World.size_alloc] at hg; omega)
      have O := Lib.hid (C1.out.put (k := k) (B' := wr.heap.size) (q := q) (ps := ps) TP_ne_TV hjm (own_of_row (n := ps.length) R1.out hg2 (flat_len ptC_len ps) (by omega)) (by omega) (fun i hi b hb => (C.out.blk i hi b hb).2))
      have O2 : Hid (OVb ((w1.setCell ⟨w.heap.size, k * 2, none⟩ (.int .i64 q)).setCell ⟨w.heap.size, k * 2 + 1, none⟩ (.slice (some ⟨g, 0, none⟩) ps.length ps.length)) w.heap.size 45 128 (.slice (some ⟨w.heap.size, 0, none⟩) vs.length vs.length) (vbTo vs (k + 1)) (ss.set k (.slice (some ⟨g, 0, none⟩) ps.length ps.length))) := Lib.hid (by have h := O.out; rw [Hlen.out] at h; rw [← Hset.out]; exact h)
      clear z0 z1 hr1 hb1 hzl hn2 O
      go_wp2
      go_roundw
      case rel => exact ⟨k + 1, _, by omega, by go_num, O2.out, (E1.out.setCell (Nat.le_refl _) _).setCell (Nat.le_refl _) _⟩
      case measure => simp [intOf]; omega
    · obtain rfl : k = vs.length := by omega
      have C2 := C.out
      rw [vbTo_all] at C2
      go_wp2
      go_ret
      exact ⟨_, ss, rfl, C2, E.out⟩
end Go.Proofs.YtagmnbphbakikaaGreat
namespace Go.Proofs.YtagmnbphbakikaaGreat
open Go Go.RowKit Go.ChangeShapes Go.WideShapes Go.ChangeAt Go.Deep Reg
theorem opens_vb {P : Program} {t e : TypeId} {f0 f1 g0 g1 : Field} (ht : P.underlying t = some (.struct #[f0, f1])) (hc : P.cellsOf t = 1 + 1) (o0 : f0.offset = 0) (o1 : f1.offset = 1)
    (k0 : P.cellsOf f0.type = 1) (k1 : P.cellsOf f1.type = 1) (h0 : P.underlying f0.type = some (.int .i64)) (h1 : P.underlying f1.type = some (.slice e))
    (hp : P.underlying e = some (.struct #[g0, g1])) (hpc : P.cellsOf e = 2) (p0 : g0.offset = 0) (p1 : g1.offset = 1) (q0 : P.cellsOf g0.type = 1) (q1 : P.cellsOf g1.type = 1) (r0 : P.underlying g0.type = some (.int .i64)) (r1 : P.underlying g1.type = some (.int .i64)) : Opens P t verbK :=
  Opens.mono (opens_struct2 (c0 := 1) (c1 := 1) ht hc o0 o1 k0 k1 (opens_int h0) (opens_slice h1 hpc (by decide) (opens_pt hp hpc p0 p1 q0 q1 r0 r1))) fun w x us ⟨u0, u1, r0, r1, e⟩ => ⟨x, by
    have e0 : u0 = [.int .i64 x.1] := r0
    obtain ⟨A, cap, e1, h2, _, h4, h5, h6⟩ := r1
    subst e0 e1
    exact ⟨A, cap, e, h2, h6, h4, h5⟩⟩
theorem vbk_len {w : World} {A : Option Addr} {vs : List Vb} (h : VbK w A vs) : ∀ v ∈ vs, v.2.length ≤ 9223372036854775807 := by
  intro v hv
  obtain ⟨k, hk, rfl⟩ := List.getElem_of_mem hv
  obtain ⟨b, off, _, _, hc⟩ := h.vbk (by omega)
  obtain ⟨A', cap', _, _, _, h1, h2, h3⟩ := hc k hk
  unfold maxLen at h3
  omega
end Go.Proofs.YtagmnbphbakikaaGreat
