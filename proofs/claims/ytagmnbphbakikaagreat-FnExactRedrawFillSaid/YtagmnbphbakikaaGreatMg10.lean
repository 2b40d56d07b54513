/-
  Several texts in one: FillZ, FillT.
-/
import Derived.Test.YtagmnbphbakikaaGreatMg6
import Derived.Test.YtagmnbphbakikaaGreatMg18
import Derived.Test.YtagmnbphbakikaaGreatMg8
namespace Go.Proofs.YtagmnbphbakikaaGreat
open Go Go.RowKit Reg
attribute [local go_sem] calmAt calmUpon
/-- A fill: its path, its rule, its paint. -/
abbrev FlD := List Vb × Int × Pt × Pt × List St
/-- The cells of a fill. -/
abbrev flC (A1 : Option Addr) (n1 c1 : Nat) (q : Int) (f t : Pt) (A2 : Option Addr) (n2 c2 : Nat) : List Value := [.slice A1 n1 c1, .int .i64 q, .int .i64 f.1, .int .i64 f.2, .int .i64 t.1, .int .i64 t.2, .slice A2 n2 c2]
abbrev flV (A1 : Option Addr) (n1 c1 : Nat) (q : Int) (f t : Pt) (A2 : Option Addr) (n2 c2 : Nat) : Value := .agg #[.slice A1 n1 c1, .int .i64 q, .int .i64 f.1, .int .i64 f.2, .int .i64 t.1, .int .i64 t.2, .slice A2 n2 c2]
def flR : World → FlD → List Value → Prop := fun w x us => ∃ A1 c1 A2 c2, us = flC A1 x.1.length c1 x.2.1 x.2.2.1 x.2.2.2.1 A2 x.2.2.2.2.length c2 ∧ VbK w A1 x.1 ∧ SlOk A1 x.1.length c1 ∧ Sts w A2 x.2.2.2.2 ∧ SlOk A2 x.2.2.2.2.length c2
theorem flR_stab : Stab flR := by
  rintro w w' x us ⟨A1, c1, A2, c2, e, h1, h2, h3, h4⟩ hx
  exact ⟨A1, c1, A2, c2, e, h1.ext verbK_stab hx, h2, h3.ext stR_stab hx, h4⟩
abbrev Fls (w : World) (A : Option Addr) (fs : List FlD) : Prop := In flR 7 w A fs
theorem In.fls {w : World} {A : Option Addr} {fs : List FlD} (h : Fls w A fs) (hn : 0 < fs.length) : ∃ b off, A = some ⟨b, off, none⟩ ∧ b < w.heap.size ∧
    ∀ (k : Nat) (h : k < fs.length), ∃ A1 c1 A2 c2, (VbK w A1 fs[k].1 ∧ SlOk A1 fs[k].1.length c1 ∧ Sts w A2 fs[k].2.2.2.2 ∧ SlOk A2 fs[k].2.2.2.2.length c2) ∧
      w.cell? ⟨b, off + k * 7, none⟩ = some (.slice A1 fs[k].1.length c1) ∧ w.cell? ⟨b, off + k * 7 + 1, none⟩ = some (.int .i64 fs[k].2.1) ∧ w.cell? ⟨b, off + k * 7 + 2, none⟩ = some (.int .i64 fs[k].2.2.1.1) ∧ w.cell? ⟨b, off + k * 7 + 3, none⟩ = some (.int .i64 fs[k].2.2.1.2) ∧
      w.cell? ⟨b, off + k * 7 + 4, none⟩ = some (.int .i64 fs[k].2.2.2.1.1) ∧ w.cell? ⟨b, off + k * 7 + 5, none⟩ = some (.int .i64 fs[k].2.2.2.1.2) ∧ w.cell? ⟨b, off + k * 7 + 6, none⟩ = some (.slice A2 fs[k].2.2.2.2.length c2) := by
  have hlt := h.lt (by omega) hn
  obtain ⟨b, off, hA, hc⟩ := h hn
  refine ⟨b, off, hA, hlt b off hA, fun k hk => ?_⟩
  obtain ⟨us, ⟨A1, c1, A2, c2, e, h1, h2, h3, h4⟩, _, h5⟩ := hc k hk
  subst e
  exact ⟨A1, c1, A2, c2, ⟨h1, h2, h3, h4⟩, h5 0 _ rfl, h5 1 _ rfl, h5 2 _ rfl, h5 3 _ rfl, h5 4 _ rfl, h5 5 _ rfl, h5 6 _ rfl⟩
/-- Small enough to be copied. -/
def flSm (f : FlD) : Prop := f.1.length ≤ 1048576 ∧ vbSum f.1 ≤ 1048576 ∧ (∀ v ∈ f.1, v.2.length ≤ 1048576) ∧ f.2.2.2.2.length ≤ 1048576
def flsSm (fs : List FlD) : Prop := fs.length ≤ 1048576 ∧ ∀ f ∈ fs, flSm f
set_option maxRecDepth 100000 in
set_option maxHeartbeats 2000000 in
theorem c_szVerbSG (left : Int) (A : Option Addr) (cap : Nat) (vs : List Vb) (w : World) (h0 : 0 ≤ left) (h1 : left ≤ 1048576) (h : Vbs w A vs) (hl : vs.length ≤ 9223372036854775807) (hb : ∀ v ∈ vs, v.2.length ≤ 9223372036854775807) :
    Calls Tryz.prog 25 #[.slice A vs.length cap, .int .i64 left] w fun e w' => ∃ m : Int, e = .returned (.int .i64 m) ∧ (0 ≤ m → m ≤ left ∧ (vs.length ≤ 1048576 ∧ vbSum vs ≤ 1048576) ∧ ∀ v ∈ vs, v.2.length ≤ 1048576) ∧ Below w.heap.size w w' := by
  have H := Lib.hid h
  have Hb := Lib.hid hb
  clear h hb
  by_cases hn : left - (vs.length : Int) < 0
  · go_enter Tryz.func25, Tryz.ntmps25
    go_wp2
    go_ret
    exact ⟨-1, rfl, fun h => by omega, Below.refl _ _⟩
  · go_enter Tryz.func25, Tryz.ntmps25
    go_wp2_with fail
    go_loopw [1, 5] (fun l i wr => ∃ (k : Nat) (m : Int), k ≤ vs.length ∧ i = .int .i64 k ∧ l = .int .i64 m ∧ 0 ≤ m ∧ m + vbSum (vs.take k) ≤ left ∧ (∀ v ∈ vs.take k, v.2.length ≤ 1048576) ∧ Ext w wr) (fun _ i _ => vs.length - (intOf i).toNat)
    case atStart => exact ⟨0, _, Nat.zero_le _, rfl, rfl, by omega, by simp [vbSum]; omega, fun r hr => by simp at hr, Below.refl _ _⟩
    case round =>
      obtain ⟨k, m, hk, rfl, rfl, hm0, hm1, hal, hbw⟩ := hrel
      have E := Lib.hid hbw
      have Hal := Lib.hid hal
      clear hbw hal
      by_cases hlt : k < vs.length
      · obtain ⟨b, off, hA, _, hc⟩ := (H.out.ext verbR_stab E.out).vbs (by omega)
        obtain ⟨A', cap', cx, cy, hp⟩ := hc k hlt
        have hz := Hb.out _ (List.getElem_mem hlt)
        have hvt := vbSum_take hlt
        have Hal2 : Hid (vs[k].2.length ≤ 1048576 → ∀ r ∈ vs.take (k + 1), r.2.length ≤ 1048576) := Lib.hid (fun h1 r hr => by
          rw [List.take_succ_eq_append_getElem hlt] at hr
          rcases List.mem_append.1 hr with hr | hr
          · exact Hal.out r hr
          · simp at hr; subst hr; exact h1)
        clear hc hp
        generalize vs[k] = v at *
        obtain ⟨q, ps⟩ := v
        dsimp only at cx cy hz Hal2 hvt
        subst hA
        by_cases hd : m - (ps.length : Int) < 0
        · have hv : (if m - (ps.length : Int) < 0 then (-1 : Int) else m - ps.length) = -1 := if_pos hd
          have Hv := Lib.hid hv
          clear hv
          go_wp2_with fail
          refine (c_szVerb q A' ps.length cap' m _ hm0 (by omega) (by omega)).mono ?_; rw [Hv.out]; rintro e w0 ⟨rfl, hb0⟩
          replace E := Lib.hid (Ext.trans E.out (Ext.trans (by repeat (first | exact Below.refl _ _ | assumption | refine Below.drew ?_ | refine Below.alloc ?_ (by first | exact Nat.le_refl _ | omega | (simp; done) | (simp; omega)) _ | refine Below.setCell ?_ (by first | exact Nat.le_refl _ | omega | (simp; done) | (simp; omega)) _)) hb0))
          clear hb0
          go_wp2
          go_ret
          exact ⟨-1, rfl, fun h => by omega, E.out⟩
        · have hv : (if m - (ps.length : Int) < 0 then (-1 : Int) else m - ps.length) = m - ps.length := if_neg hd
          have Hv := Lib.hid hv
          clear hv
          go_wp2_with fail
          refine (c_szVerb q A' ps.length cap' m _ hm0 (by omega) (by omega)).mono ?_; rw [Hv.out]; rintro e w0 ⟨rfl, hb0⟩
          replace E := Lib.hid (Ext.trans E.out (Ext.trans (by repeat (first | exact Below.refl _ _ | assumption | refine Below.drew ?_ | refine Below.alloc ?_ (by first | exact Nat.le_refl _ | omega | (simp; done) | (simp; omega)) _ | refine Below.setCell ?_ (by first | exact Nat.le_refl _ | omega | (simp; done) | (simp; omega)) _)) hb0))
          clear hb0
          go_wp2
          go_roundw
          case rel => exact ⟨k + 1, m - ps.length, by omega, by go_num, rfl, by omega, by omega, Hal2.out (by omega), E.out⟩
          case measure => simp [intOf]; omega
      · have hk' : k = vs.length := by omega
        have Hf : Hid (∀ v ∈ vs, v.2.length ≤ 1048576) := Lib.hid (by have := Hal.out; rw [hk', List.take_length] at this; exact this)
        go_wp2
        go_ret
        rw [hk', List.take_length] at hm1
        exact ⟨m, rfl, fun _ => ⟨by omega, ⟨by omega, by omega⟩, Hf.out⟩, E.out⟩
set_option maxHeartbeats 1000000 in
theorem c_szPaintG (left : Int) (f t : Pt) (A : Option Addr) (n cap : Nat) (w : World) (h0 : 0 ≤ left) (h1 : left ≤ 1048576) (hn : n ≤ 9223372036854775807) :
    Calls Tryz.prog 26 #[paV f t A n cap, .int .i64 left] w fun e w' => e = .returned (.int .i64 (if left - n < 0 then -1 else left - n)) ∧ Below w.heap.size w w' := by
  have K := Lib.hid (fun W => c_szStopS A n cap left W (by omega) (by omega) hn)
  have E := Lib.hid (Below.refl w.heap.size w)
  by_cases h : left - (n : Int) < 0
  · have hv : (if left - (n : Int) < 0 then (-1 : Int) else left - n) = -1 := if_pos h
    rw [hv] at K ⊢
    clear hv
    go_enter Tryz.func26, Tryz.ntmps26
    go_wp2_with fail
    first | refine gen_calls ?_ | refine gen_code ?_ | refine gen_list ?_
    intro w0 hW
    obtain ⟨hb, hR0⟩ := new1 hW
    clear hW
    replace E := Lib.hid (Ext.trans E.out hb)
    clear hb
    have R0 := Lib.hid hR0
    have lR0 := R0.out.lt
    clear hR0
    have c0 := R0.out.cell_of (i := 0) rfl
    have c1 := R0.out.cell_of (i := 1) rfl
    have c2 := R0.out.cell_of (i := 2) rfl
    have c3 := R0.out.cell_of (i := 3) rfl
    have c4 := R0.out.cell_of (i := 4) rfl
    go_wp2_with fail
    refine (K.out _).mono ?_
    rintro e w' ⟨rfl, rfl⟩
    go_wp2
    go_ret
    exact ⟨rfl, E.out⟩
  · have hv : (if left - (n : Int) < 0 then (-1 : Int) else left - n) = left - n := if_neg h
    rw [hv] at K ⊢
    clear hv
    go_enter Tryz.func26, Tryz.ntmps26
    go_wp2_with fail
    first | refine gen_calls ?_ | refine gen_code ?_ | refine gen_list ?_
    intro w0 hW
    obtain ⟨hb, hR0⟩ := new1 hW
    clear hW
    replace E := Lib.hid (Ext.trans E.out hb)
    clear hb
    have R0 := Lib.hid hR0
    have lR0 := R0.out.lt
    clear hR0
    have c0 := R0.out.cell_of (i := 0) rfl
    have c1 := R0.out.cell_of (i := 1) rfl
    have c2 := R0.out.cell_of (i := 2) rfl
    have c3 := R0.out.cell_of (i := 3) rfl
    have c4 := R0.out.cell_of (i := 4) rfl
    go_wp2_with fail
    refine (K.out _).mono ?_
    rintro e w' ⟨rfl, rfl⟩
    go_wp2
    go_ret
    exact ⟨rfl, E.out⟩
set_option maxRecDepth 100000 in
set_option maxHeartbeats 2000000 in
theorem c_szFill (left : Int) (A1 : Option Addr) (c1 : Nat) (x : FlD) (A2 : Option Addr) (c2 : Nat) (w : World) (h0 : 0 ≤ left) (h1 : left ≤ 1048576) (hv : VbK w A1 x.1) (s1 : SlOk A1 x.1.length c1) (s2 : SlOk A2 x.2.2.2.2.length c2) :
    Calls Tryz.prog 6 #[flV A1 x.1.length c1 x.2.1 x.2.2.1 x.2.2.2.1 A2 x.2.2.2.2.length c2, .int .i64 left] w fun e w' => ∃ m : Int, e = .returned (.int .i64 m) ∧ (0 ≤ m → m ≤ left ∧ flSm x) ∧ Below w.heap.size w w' := by
  obtain ⟨vs, q, f, t, ss⟩ := x
  have hl1 : vs.length ≤ 9223372036854775807 := by have h := s1.2; unfold maxLen at h; dsimp only at h; omega
  have hl2 : ss.length ≤ 9223372036854775807 := by have h := s2.2; unfold maxLen at h; dsimp only at h; omega
  have KV := Lib.hid (fun W (hW : Vbs W A1 vs) => c_szVerbSG left A1 c1 vs W h0 h1 hW hl1 (vbk_len hv))
  have H := Lib.hid hv.toV
  have E := Lib.hid (Below.refl w.heap.size w)
  obtain ⟨fx, fy⟩ := f
  obtain ⟨tx, ty⟩ := t
  dsimp only at H
  clear hv s1 s2
  go_enter Tryz.func6, Tryz.ntmps6
  go_wp2_with fail
  first | refine gen_calls ?_ | refine gen_code ?_ | refine gen_list ?_
  intro w0 hW
  obtain ⟨hb, hR0⟩ := new1 hW
  clear hW
  replace E := Lib.hid (Ext.trans E.out hb)
  replace H := Lib.hid (H.out.ext verbR_stab hb)
  clear hb
  have R0 := Lib.hid hR0
  have lR0 := R0.out.lt
  clear hR0
  have k0 := R0.out.cell_of (i := 0) rfl
  have k1 := R0.out.cell_of (i := 1) rfl
  have k2 := R0.out.cell_of (i := 2) rfl
  have k3 := R0.out.cell_of (i := 3) rfl
  have k4 := R0.out.cell_of (i := 4) rfl
  have k5 := R0.out.cell_of (i := 5) rfl
  have k6 := R0.out.cell_of (i := 6) rfl
  go_wp2_with fail
  clear k0 k1 k2 k3 k4 k5 k6
  refine (KV.out _ H.out).mono ?_
  rintro e w1 ⟨m, rfl, hm, hb⟩
  replace E := Lib.hid (Ext.trans E.out hb)
  replace H := Lib.hid (H.out.ext verbR_stab hb)
  replace R0 := Lib.hid (R0.out.ext hb)
  have lR0 := R0.out.lt
  clear hb
  have k0 := R0.out.cell_of (i := 0) rfl
  have k1 := R0.out.cell_of (i := 1) rfl
  have k2 := R0.out.cell_of (i := 2) rfl
  have k3 := R0.out.cell_of (i := 3) rfl
  have k4 := R0.out.cell_of (i := 4) rfl
  have k5 := R0.out.cell_of (i := 5) rfl
  have k6 := R0.out.cell_of (i := 6) rfl
  have Hm := Lib.hid hm
  clear hm
  by_cases hneg : m < 0
  · go_wp2
    go_ret
    exact ⟨-1, rfl, fun h => by omega, E.out⟩
  · obtain ⟨m1, m2, m3⟩ := Hm.out (by omega)
    have M3 := Lib.hid (And.intro m2 m3)
    have KP := Lib.hid (fun W => c_szPaintG m (fx, fy) (tx, ty) A2 ss.length c2 W (by omega) (by omega) hl2)
    clear m2 m3
    by_cases hd : m - (ss.length : Int) < 0
    · have hv : (if m - (ss.length : Int) < 0 then (-1 : Int) else m - ss.length) = -1 := if_pos hd
      rw [hv] at KP
      clear hv
      go_wp2_with fail
      clear k0 k1 k2 k3 k4 k5 k6
      refine (KP.out _).mono ?_
      rintro e w2 ⟨rfl, hb⟩
      replace E := Lib.hid (Ext.trans E.out hb)
      replace H := Lib.hid (H.out.ext verbR_stab hb)
      replace R0 := Lib.hid (R0.out.ext hb)
      have lR0 := R0.out.lt
      clear hb
      have k0 := R0.out.cell_of (i := 0) rfl
      have k1 := R0.out.cell_of (i := 1) rfl
      have k2 := R0.out.cell_of (i := 2) rfl
      have k3 := R0.out.cell_of (i := 3) rfl
      have k4 := R0.out.cell_of (i := 4) rfl
      have k5 := R0.out.cell_of (i := 5) rfl
      have k6 := R0.out.cell_of (i := 6) rfl
      go_wp2
      go_ret
      exact ⟨-1, rfl, fun h => by omega, E.out⟩
    · have hv : (if m - (ss.length : Int) < 0 then (-1 : Int) else m - ss.length) = m - ss.length := if_neg hd
      rw [hv] at KP
      clear hv
      go_wp2_with fail
      clear k0 k1 k2 k3 k4 k5 k6
      refine (KP.out _).mono ?_
      rintro e w2 ⟨rfl, hb⟩
      replace E := Lib.hid (Ext.trans E.out hb)
      replace H := Lib.hid (H.out.ext verbR_stab hb)
      replace R0 := Lib.hid (R0.out.ext hb)
      have lR0 := R0.out.lt
      clear hb
      have k0 := R0.out.cell_of (i := 0) rfl
      have k1 := R0.out.cell_of (i := 1) rfl
      have k2 := R0.out.cell_of (i := 2) rfl
      have k3 := R0.out.cell_of (i := 3) rfl
      have k4 := R0.out.cell_of (i := 4) rfl
      have k5 := R0.out.cell_of (i := 5) rfl
      have k6 := R0.out.cell_of (i := 6) rfl
      go_wp2
      go_ret
      exact ⟨m - ss.length, rfl, fun _ => ⟨by omega, M3.out.1.1, M3.out.1.2, M3.out.2, by show ss.length ≤ 1048576; omega⟩, E.out⟩
set_option maxRecDepth 100000 in
set_option maxHeartbeats 2000000 in
theorem c_szFillS (left : Int) (A : Option Addr) (cap : Nat) (fs : List FlD) (w : World) (h0 : 0 ≤ left) (h1 : left ≤ 1048576) (h : Fls w A fs) (hl : fs.length ≤ 9223372036854775807) :
    Calls Tryz.prog 24 #[.slice A fs.length cap, .int .i64 left] w fun e w' => ∃ m : Int, e = .returned (.int .i64 m) ∧ (0 ≤ m → m ≤ left ∧ flsSm fs) ∧ Below w.heap.size w w' := by
  have H := Lib.hid h
  clear h
  by_cases hn : left - (fs.length : Int) < 0
  · go_enter Tryz.func24, Tryz.ntmps24
    go_wp2
    go_ret
    exact ⟨-1, rfl, fun h => by omega, Below.refl _ _⟩
  · go_enter Tryz.func24, Tryz.ntmps24
    go_wp2_with fail
    go_loopw [1, 5] (fun l i wr => ∃ (k : Nat) (m : Int), k ≤ fs.length ∧ i = .int .i64 k ∧ l = .int .i64 m ∧ 0 ≤ m ∧ m ≤ left ∧ (∀ f ∈ fs.take k, flSm f) ∧ Ext w wr) (fun _ i _ => fs.length - (intOf i).toNat)
    case atStart => exact ⟨0, _, Nat.zero_le _, rfl, rfl, by omega, by omega, fun r hr => by simp at hr, Below.refl _ _⟩
    case round =>
      obtain ⟨k, m, hk, rfl, rfl, hm0, hm1, hal, hbw⟩ := hrel
      have E := Lib.hid hbw
      have Hal := Lib.hid hal
      clear hbw hal
      by_cases hlt : k < fs.length
      · obtain ⟨b, off, hA, _, hc⟩ := (H.out.ext flR_stab E.out).fls (by omega)
        obtain ⟨A1, c1, A2, c2, hp, x0, x1, x2, x3, x4, x5, x6⟩ := hc k hlt
        have Hal2 : Hid (flSm fs[k] → ∀ r ∈ fs.take (k + 1), flSm r) := Lib.hid (fun h1 r hr => by
          rw [List.take_succ_eq_append_getElem hlt] at hr
          rcases List.mem_append.1 hr with hr | hr
          · exact Hal.out r hr
          · simp at hr; subst hr; exact h1)
        have Hp := Lib.hid hp
        clear hc hp
        subst hA
        generalize fs[k] = x at *
        have KF := Lib.hid (c_szFill m A1 c1 x A2 c2 wr hm0 (by omega) Hp.out.1 Hp.out.2.1 Hp.out.2.2.2)
        have hkI : (k : Int) < (fs.length : Int) := by omega
        go_wp2_with fail
        refine (KF.out).mono ?_
        rintro e w1 ⟨m2, rfl, hm2, hb⟩
        replace E := Lib.hid (Ext.trans E.out hb)
        clear hb
        have Hm2 := Lib.hid hm2
        clear hm2 x0 x1 x2 x3 x4 x5 x6
        by_cases hneg : m2 < 0
        · go_wp2
          go_ret
          exact ⟨-1, rfl, fun h => by omega, E.out⟩
        · have hm3 := (Hm2.out (by omega)).1
          go_wp2
          go_roundw
          case rel => exact ⟨k + 1, m2, by omega, by go_num, rfl, by omega, by omega, Hal2.out (Hm2.out (by omega)).2, E.out⟩
          case measure => simp [intOf]; omega
      · have hk' : k = fs.length := by omega
        have Hf : Hid (∀ f ∈ fs, flSm f) := Lib.hid (by have := Hal.out; rw [hk', List.take_length] at this; exact this)
        go_wp2
        go_ret
        exact ⟨m, rfl, fun _ => ⟨hm1, by omega, Hf.out⟩, E.out⟩
set_option maxRecDepth 100000 in
set_option maxHeartbeats 2000000 in
theorem c_szScene (left : Int) (W H : Int) (A : Option Addr) (cap : Nat) (fs : List FlD) (w : World) (h0 : 0 ≤ left) (h1 : left ≤ 1048576) (h : Fls w A fs) (hl : fs.length ≤ 9223372036854775807) :
    Calls Tryz.prog 5 #[.agg #[.int .i64 W, .int .i64 H, .slice A fs.length cap], .int .i64 left] w fun e w' => ∃ m : Int, e = .returned (.int .i64 m) ∧ (0 ≤ m → m ≤ left ∧ flsSm fs) ∧ Below w.heap.size w w' := by
  have KF := Lib.hid (fun W hW => c_szFillS left A cap fs W h0 h1 hW hl)
  have Hf := Lib.hid h
  have E := Lib.hid (Below.refl w.heap.size w)
  clear h
  go_enter Tryz.func5, Tryz.ntmps5
  go_wp2_with fail
  first | refine gen_calls ?_ | refine gen_code ?_ | refine gen_list ?_
  intro w0 hW
  obtain ⟨hb, hR0⟩ := new1 hW
  clear hW
  replace E := Lib.hid (Ext.trans E.out hb)
  replace Hf := Lib.hid (Hf.out.ext flR_stab hb)
  clear hb
  have R0 := Lib.hid hR0
  have lR0 := R0.out.lt
  clear hR0
  have c0 := R0.out.cell_of (i := 0) rfl
  have c1 := R0.out.cell_of (i := 1) rfl
  have c2 := R0.out.cell_of (i := 2) rfl
  go_wp2_with fail
  clear c0 c1 c2
  refine (KF.out _ Hf.out).mono ?_
  rintro e w1 ⟨m, rfl, hm, hb⟩
  replace E := Lib.hid (Ext.trans E.out hb)
  replace Hf := Lib.hid (Hf.out.ext flR_stab hb)
  replace R0 := Lib.hid (R0.out.ext hb)
  have lR0 := R0.out.lt
  clear hb
  have c0 := R0.out.cell_of (i := 0) rfl
  have c1 := R0.out.cell_of (i := 1) rfl
  have c2 := R0.out.cell_of (i := 2) rfl
  have Hm := Lib.hid hm
  clear hm
  by_cases hneg : m < 0
  · go_wp2
    go_ret
    exact ⟨-1, rfl, fun h => by omega, E.out⟩
  · go_wp2
    go_ret
    exact ⟨m, rfl, Hm.out, E.out⟩
end Go.Proofs.YtagmnbphbakikaaGreat
namespace Go.Proofs.YtagmnbphbakikaaGreat
open Go Go.RowKit Reg
attribute [local go_sem] calmAt calmUpon
/-- A fill in rows of its own. -/
def flO (B : Nat) : World → FlD → List Value → Prop := fun w x us => ∃ b1 sp b2, us = flC (some ⟨b1, 0, none⟩) x.1.length x.1.length x.2.1 x.2.2.1 x.2.2.2.1 (some ⟨b2, 0, none⟩) x.2.2.2.2.length x.2.2.2.2.length ∧
  OVb w B 45 128 (.slice (some ⟨b1, 0, none⟩) x.1.length x.1.length) x.1 sp ∧ B ≤ b2 ∧ Row w b2 168 (x.2.2.2.2.flatMap stC) ∧ x.1.length ≤ maxLen ∧ x.2.2.2.2.length ≤ maxLen
theorem flO_stab (B : Nat) : Stab (flO B) := by
  rintro w w' x us ⟨b1, sp, b2, e, h1, h2, h3, h4, h5⟩ hx
  exact ⟨b1, sp, b2, e, h1.ext hx, h2, h3.ext hx, h4, h5⟩
theorem flO_rebase {B B' : Nat} (hB : B' ≤ B) {w : World} {x : FlD} {us : List Value} : flO B w x us → flO B' w x us := by
  rintro ⟨b1, sp, b2, e, h1, h2, h3, h4, h5⟩
  exact ⟨b1, sp, b2, e, h1.rebase hB, by omega, h3, h4, h5⟩
theorem flO_R {B : Nat} {w : World} {x : FlD} {us : List Value} : flO B w x us → flR w x us := by
  rintro ⟨b1, sp, b2, e, h1, h2, h3, h4, h5⟩
  exact ⟨_, _, _, _, e, h1.inK, ⟨fun h => (by cases h), Nat.le_refl _, h4⟩, sts_row h3, ⟨fun h => (by cases h), Nat.le_refl _, h5⟩⟩
theorem In.imp {α : Type} {R R' : World → α → List Value → Prop} {sz : Nat} {w : World} {A : Option Addr} {xs : List α} (h : In R sz w A xs) (hR : ∀ x us, R w x us → R' w x us) : In R' sz w A xs := by
  intro hn
  obtain ⟨b, off, hA, hc⟩ := h hn
  refine ⟨b, off, hA, fun k hk => ?_⟩
  obtain ⟨us, h1, h2⟩ := hc k hk
  exact ⟨us, hR _ _ h1, h2⟩
theorem TF_ne_TP : (50 : TypeId) ≠ 45 := by decide
theorem TF_ne_TV : (50 : TypeId) ≠ 128 := by decide
theorem TF_ne_TS : (50 : TypeId) ≠ 168 := by decide
set_option maxRecDepth 100000 in
set_option maxHeartbeats 4000000 in
theorem c_toFill (A1 : Option Addr) (c1 : Nat) (x : FlD) (A2 : Option Addr) (c2 : Nat) (w : World) (hv : VbK w A1 x.1) (hs : Sts w A2 x.2.2.2.2) (hsm : flSm x) :
    Calls Tryz.prog 9 #[flV A1 x.1.length c1 x.2.1 x.2.2.1 x.2.2.2.1 A2 x.2.2.2.2.length c2] w fun e w' => ∃ us : List Value, e = .returned (.agg us.toArray) ∧ flO w.heap.size w' x us ∧ Below w.heap.size w w' := by
  obtain ⟨vs, q, f, t, ss⟩ := x
  obtain ⟨fx, fy⟩ := f
  obtain ⟨tx, ty⟩ := t
  obtain ⟨m1, _, m3, m4⟩ := hsm
  dsimp only at m1 m3 m4
  have H := Lib.hid hv
  have S := Lib.hid hs
  have SW := Lib.hid hs
  dsimp only at H S SW
  have E := Lib.hid (Below.refl w.heap.size w)
  have KV := Lib.hid (fun W (hW : Vbs W A1 vs) => c_toVerbS A1 c1 vs W hW m1 m3)
  have KP := Lib.hid (fun W (hW : Sts W A2 ss) => c_toPaintO (fx, fy) (tx, ty) A2 c2 ss W hW m4)
  clear hv hs m3
  go_enter Tryz.func9, Tryz.ntmps9
  go_wp2_with fail
  first | refine gen_calls ?_ | refine gen_code ?_ | refine gen_list ?_
  intro w0 hW
  obtain ⟨hb, hR1, hR2, hR3⟩ := new3 hW
  clear hW
  replace E := Lib.hid (Ext.trans E.out hb)
  replace H := Lib.hid (H.out.ext verbK_stab hb)
  replace S := Lib.hid (S.out.ext stR_stab hb)
  clear hb
  have R1 := Lib.hid hR1
  have lR1 := R1.out.lt
  clear hR1
  have R2 := Lib.hid hR2
  have lR2 := R2.out.lt
  clear hR2
  have R3 := Lib.hid hR3
  have lR3 := R3.out.lt
  clear hR3
  have hz0 : w.heap.size ≤ w0.heap.size := E.out.size
  have k0 := R1.out.cell_of (i := 0) rfl
  have k1 := R1.out.cell_of (i := 1) rfl
  have k2 := R1.out.cell_of (i := 2) rfl
  have k3 := R1.out.cell_of (i := 3) rfl
  have k4 := R1.out.cell_of (i := 4) rfl
  have k5 := R1.out.cell_of (i := 5) rfl
  have k6 := R1.out.cell_of (i := 6) rfl
  have d0 := R3.out.cell_of (i := 0) rfl
  have zd0 := R3.out.frozen 0
  have d1 := R3.out.cell_of (i := 1) rfl
  have zd1 := R3.out.frozen 1
  have d2 := R3.out.cell_of (i := 2) rfl
  have zd2 := R3.out.frozen 2
  have d3 := R3.out.cell_of (i := 3) rfl
  have zd3 := R3.out.frozen 3
  have d4 := R3.out.cell_of (i := 4) rfl
  have zd4 := R3.out.frozen 4
  have d5 := R3.out.cell_of (i := 5) rfl
  have zd5 := R3.out.frozen 5
  have d6 := R3.out.cell_of (i := 6) rfl
  have zd6 := R3.out.frozen 6
  go_wp2_with fail
  clear k0 k1 k2 k3 k4 k5 k6 d0 zd0 d1 zd1 d2 zd2 d3 zd3 d4 zd4 d5 zd5 d6 zd6
  refine (KV.out _ H.out.toV).mono ?_
  rintro e w1 ⟨b1, sp, rfl, ho1, hb⟩
  replace E := Lib.hid (Ext.trans E.out hb)
  replace H := Lib.hid (H.out.ext verbK_stab hb)
  replace S := Lib.hid (S.out.ext stR_stab hb)
  replace R1 := Lib.hid (R1.out.ext hb)
  have lR1 := R1.out.lt
  replace R2 := Lib.hid (R2.out.ext hb)
  have lR2 := R2.out.lt
  replace R3 := Lib.hid (R3.out.ext hb)
  have lR3 := R3.out.lt
  clear hb
  have O := Lib.hid (ho1)
  clear ho1
  have k0 := R1.out.cell_of (i := 0) rfl
  have k1 := R1.out.cell_of (i := 1) rfl
  have k2 := R1.out.cell_of (i := 2) rfl
  have k3 := R1.out.cell_of (i := 3) rfl
  have k4 := R1.out.cell_of (i := 4) rfl
  have k5 := R1.out.cell_of (i := 5) rfl
  have k6 := R1.out.cell_of (i := 6) rfl
  have d0 := R3.out.cell_of (i := 0) rfl
  have zd0 := R3.out.frozen 0
  have d1 := R3.out.cell_of (i := 1) rfl
  have zd1 := R3.out.frozen 1
  have d2 := R3.out.cell_of (i := 2) rfl
  have zd2 := R3.out.frozen 2
  have d3 := R3.out.cell_of (i := 3) rfl
  have zd3 := R3.out.frozen 3
  have d4 := R3.out.cell_of (i := 4) rfl
  have zd4 := R3.out.frozen 4
  have d5 := R3.out.cell_of (i := 5) rfl
  have zd5 := R3.out.frozen 5
  have d6 := R3.out.cell_of (i := 6) rfl
  have zd6 := R3.out.frozen 6
  have O1 := Lib.hid (O.out.rebase (B' := w.heap.size) hz0)
  go_wp2_with fail
  clear k0 k1 k2 k3 k4 k5 k6 d0 zd0 d1 zd1 d2 zd2 d3 zd3 d4 zd4 d5 zd5 d6 zd6
  refine gen_calls (fun w2 hW => ?_)
  have hg : w1.grownBy w2 (some (w.heap.size + 2)) := by rw [hW]; exact sets_trans (set_grown _ _ 0 _) (set_grown _ _ 1 _)
  have B1 := Lib.hid (R1.out.keptG hg (by omega))
  have B2 := Lib.hid (R2.out.keptG hg (by omega))
  have B3 : Hid (Row w2 (w.heap.size + 2) 50 [.slice (some ⟨b1, 0, none⟩) vs.length vs.length, .int .i64 q, .int .i64 0, .int .i64 0, .int .i64 0, .int .i64 0, .slice none 0 0]) := Lib.hid (by
    rw [hW]; exact (R3.out.set_ 0 (.slice (some ⟨b1, 0, none⟩) vs.length vs.length)).set_ 1 (.int .i64 q))
  have O2 := Lib.hid (O1.out.keptB R3.out TF_ne_TP TF_ne_TV hg)
  have E2 := Lib.hid (below_set E.out hg (by omega) E.out.size)
  have S2 := Lib.hid (SW.out.ext stR_stab E2.out)
  clear hW hg R1 R2 R3 O O1 E S H
  have hz2 : w.heap.size ≤ w2.heap.size := E2.out.size
  have hl3 := B3.out.lt
  have hl2 := B2.out.lt
  refine (KP.out _ S2.out).mono ?_
  rintro e w3 ⟨b2, rfl, hb2, hr2, hb⟩
  replace E2 := Lib.hid (Ext.trans E2.out hb)
  replace B1 := Lib.hid (B1.out.ext hb)
  have lB1 := B1.out.lt
  replace B2 := Lib.hid (B2.out.ext hb)
  have lB2 := B2.out.lt
  replace B3 := Lib.hid (B3.out.ext hb)
  have lB3 := B3.out.lt
  replace O2 := Lib.hid (O2.out.ext hb)
  clear hb
  have RS := Lib.hid hr2
  clear hr2
  have d0 := B3.out.cell_of (i := 0) rfl
  have zd0 := B3.out.frozen 0
  have d1 := B3.out.cell_of (i := 1) rfl
  have zd1 := B3.out.frozen 1
  have d2 := B3.out.cell_of (i := 2) rfl
  have zd2 := B3.out.frozen 2
  have d3 := B3.out.cell_of (i := 3) rfl
  have zd3 := B3.out.frozen 3
  have d4 := B3.out.cell_of (i := 4) rfl
  have zd4 := B3.out.frozen 4
  have d5 := B3.out.cell_of (i := 5) rfl
  have zd5 := B3.out.frozen 5
  have d6 := B3.out.cell_of (i := 6) rfl
  have zd6 := B3.out.frozen 6
  have x0 := B2.out.cell_of (i := 0) rfl
  have zx0 := B2.out.frozen 0
  have x1 := B2.out.cell_of (i := 1) rfl
  have zx1 := B2.out.frozen 1
  have x2 := B2.out.cell_of (i := 2) rfl
  have zx2 := B2.out.frozen 2
  have x3 := B2.out.cell_of (i := 3) rfl
  have zx3 := B2.out.frozen 3
  have x4 := B2.out.cell_of (i := 4) rfl
  have zx4 := B2.out.frozen 4
  have x5 := B2.out.cell_of (i := 5) rfl
  have zx5 := B2.out.frozen 5
  have x6 := B2.out.cell_of (i := 6) rfl
  have zx6 := B2.out.frozen 6
  go_wp2
  clear d0 zd0 d1 zd1 d2 zd2 d3 zd3 d4 zd4 d5 zd5 d6 zd6 x0 zx0 x1 zx1 x2 zx2 x3 zx3 x4 zx4 x5 zx5 x6 zx6
  refine gen_post (fun W hW => ?_)
  obtain ⟨Wm, hWm⟩ : ∃ Wm, ((((w3.setCell ⟨w.heap.size + 1 + 1, 2, none⟩ (.int .i64 fx)).setCell ⟨w.heap.size + 1 + 1, 3, none⟩ (.int .i64 fy)).setCell ⟨w.heap.size + 1 + 1, 4, none⟩ (.int .i64 tx)).setCell ⟨w.heap.size + 1 + 1, 5, none⟩ (.int .i64 ty)).setCell ⟨w.heap.size + 1 + 1, 6, none⟩ (.slice (some ⟨b2, 0, none⟩) ss.length ss.length) = Wm := ⟨_, rfl⟩
  rw [hWm] at hW
  have hg1 : w3.grownBy Wm (some (w.heap.size + 1 + 1)) := by rw [← hWm]; exact sets5 w3 _ 2 _ _ _ _ _
  have hg2 : Wm.grownBy W (some (w.heap.size + 1)) := by rw [hW]; exact sets7 Wm _ 0 _ _ _ _ _ _ _
  have C2 := B2.out.keptG hg1 (by omega)
  have D2 : Row W (w.heap.size + 1) 50 [.slice (some ⟨b1, 0, none⟩) vs.length vs.length, .int .i64 q, .int .i64 fx, .int .i64 fy, .int .i64 tx, .int .i64 ty, .slice (some ⟨b2, 0, none⟩) ss.length ss.length] := by
    rw [hW]; exact ((((((C2.set_ 0 _).set_ 1 _).set_ 2 _).set_ 3 _).set_ 4 _).set_ 5 _).set_ 6 _
  have O3 := (O2.out.keptB B3.out TF_ne_TP TF_ne_TV hg1).keptB C2 TF_ne_TP TF_ne_TV hg2
  have RS3 := (RS.out.keptG hg1 (by omega)).keptG hg2 (by omega)
  have E3 := below_set (below_set E2.out hg1 (by omega) E2.out.size) hg2 (by omega) (by have := hg1.size; have := E2.out.size; omega)
  have y0 := D2.cell_of (i := 0) rfl
  have y1 := D2.cell_of (i := 1) rfl
  have y2 := D2.cell_of (i := 2) rfl
  have y3 := D2.cell_of (i := 3) rfl
  have y4 := D2.cell_of (i := 4) rfl
  have y5 := D2.cell_of (i := 5) rfl
  have y6 := D2.cell_of (i := 6) rfl
  exact bodyPost_ret (v := flV (some ⟨b1, 0, none⟩) vs.length vs.length q (fx, fy) (tx, ty) (some ⟨b2, 0, none⟩) ss.length ss.length) (by simp [results, Tryz.results9, go_sem, y0, y1, y2, y3, y4, y5, y6]) rfl
    ⟨flC (some ⟨b1, 0, none⟩) vs.length vs.length q (fx, fy) (tx, ty) (some ⟨b2, 0, none⟩) ss.length ss.length, rfl, ⟨b1, sp, b2, rfl, O3, by omega, RS3, by unfold maxLen; exact Nat.le_trans m1 (by decide), by unfold maxLen; exact Nat.le_trans m4 (by decide)⟩, E3⟩
theorem ei_fl : EI Tryz.prog 40 50 (.agg #[.slice none 0 0, .int .i64 0, .int .i64 0, .int .i64 0, .int .i64 0, .int .i64 0, .slice none 0 0]) [.slice none 0 0, .int .i64 0, .int .i64 0, .int .i64 0, .int .i64 0, .int .i64 0, .slice none 0 0] 88 := ei_mk Tryz.underlying40 (by kernel_rfl) rfl (by decide) (by decide)
theorem row_ne {w : World} {g g' : Nat} {e e' : TypeId} {cs cs' : List Value} (h : Row w g e cs) (h' : Row w g' e' cs') (he : e ≠ e') : g ≠ g' := by
  rintro rfl
  unfold Row at h h'
  rw [h] at h'
  injection h' with h'
  injection h' with _ h2
  exact he h2
theorem flO_keptB {B g : Nat} {w w' : World} {x : FlD} {us cs : List Value} (h : flO B w x us) (hr : Row w g 50 cs) (hg : w.grownBy w' (some g)) : flO B w' x us := by
  obtain ⟨b1, sp, b2, e, h1, h2, h3, h4⟩ := h
  exact ⟨b1, sp, b2, e, h1.keptB hr TF_ne_TP TF_ne_TV hg, h2, h3.keptG hg (row_ne h3 hr (Ne.symm TF_ne_TS)), h4⟩
theorem setAll_len (us : List Value) : ∀ (cs : List Value) (i : Nat), (setAll cs i us).length = cs.length := by
  induction us with
  | nil => intro cs i; rfl
  | cons u us ih => intro cs i; simp only [setAll]; rw [ih, List.length_set]
theorem setAll_get : ∀ (us cs : List Value) (i m : Nat), i + us.length ≤ cs.length → (setAll cs i us)[m]? = if i ≤ m ∧ m < i + us.length then us[m - i]? else cs[m]?
  | [], cs, i, m, _ => by simp [setAll]; omega
  | u :: us, cs, i, m, h => by
    simp only [setAll, List.length_cons] at h ⊢
    rw [setAll_get us (cs.set i u) (i + 1) m (by rw [List.length_set]; omega)]
    by_cases h1 : m = i
    · subst h1
      rw [if_neg (by omega), if_pos (by omega), List.getElem?_set_self (by omega)]
      simp
    · by_cases h2 : i + 1 ≤ m ∧ m < i + 1 + us.length
      · rw [if_pos h2, if_pos (by omega)]
        have e : m - i = (m - (i + 1)) + 1 := by omega
        rw [e, List.getElem?_cons_succ]
      · rw [if_neg h2, if_neg (by omega), List.getElem?_set_ne (by omega)]
/-- The first k fills lie in a row. -/
def FlRow (B : Nat) (w : World) (fs : List FlD) (k : Nat) (cs : List Value) : Prop := cs.length = fs.length * 7 ∧ ∀ j (h : j < fs.length), j < k → ∃ us, flO B w fs[j] us ∧ us.length = 7 ∧ ∀ i u, us[i]? = some u → cs[j * 7 + i]? = some u
theorem FlRow.ext {B k : Nat} {w w' : World} {fs : List FlD} {cs : List Value} (h : FlRow B w fs k cs) (hx : Ext w w') : FlRow B w' fs k cs :=
  ⟨h.1, fun j hj hk => by obtain ⟨us, h1, h2⟩ := h.2 j hj hk; exact ⟨us, flO_stab B _ _ _ _ h1 hx, h2⟩⟩
theorem FlRow.put {B k g : Nat} {w w' : World} {fs : List FlD} {cs : List Value} {us : List Value} (h : FlRow B w fs k cs) (hk : k < fs.length) (hr : Row w g 50 cs) (hu : flO B w fs[k] us) (hl : us.length = 7) (hg : w.grownBy w' (some g)) :
    FlRow B w' fs (k + 1) (setAll cs (k * 7) us) := by
  have hb : k * 7 + us.length ≤ cs.length := by
    have := h.1
    have : k * 7 + 7 ≤ fs.length * 7 := by have := Nat.mul_le_mul_right 7 (show k + 1 ≤ fs.length from hk); omega
    omega
  refine ⟨by rw [setAll_len]; exact h.1, fun j hj hjk => ?_⟩
  by_cases he : j = k
  · subst he
    refine ⟨us, flO_keptB hu hr hg, hl, fun i u hi => ?_⟩
    have hi7 : i < us.length := (List.getElem?_eq_some_iff.1 hi).1
    rw [setAll_get _ _ _ _ hb, if_pos (by omega)]
    have e : j * 7 + i - j * 7 = i := by omega
    rw [e, hi]
  · obtain ⟨vs, h1, h2, h3⟩ := h.2 j hj (by omega)
    refine ⟨vs, flO_keptB h1 hr hg, h2, fun i u hi => ?_⟩
    have hi7 : i < vs.length := (List.getElem?_eq_some_iff.1 hi).1
    rw [setAll_get _ _ _ _ hb, if_neg (by omega)]
    exact h3 i u hi
theorem FlRow.in_ {B g : Nat} {w : World} {fs : List FlD} {cs : List Value} (h : FlRow B w fs fs.length cs) (hr : Row w g 50 cs) : In (flO B) 7 w (some ⟨g, 0, none⟩) fs := by
  intro _
  refine ⟨g, 0, rfl, fun k hk => ?_⟩
  obtain ⟨us, h1, h2, h3⟩ := h.2 k hk hk
  exact ⟨us, h1, h2, fun j u hu => by rw [Nat.zero_add]; exact hr.cell_of (h3 j u hu)⟩
set_option maxRecDepth 100000 in
set_option maxHeartbeats 4000000 in
theorem c_toFillS (A : Option Addr) (cap : Nat) (fs : List FlD) (w : World) (h : Fls w A fs) (hsm : flsSm fs) :
    Calls Tryz.prog 34 #[.slice A fs.length cap] w fun e w' => ∃ b cs, e = .returned (.slice (some ⟨b, 0, none⟩) fs.length fs.length) ∧ w.heap.size ≤ b ∧ Row w' b 50 cs ∧ FlRow w.heap.size w' fs fs.length cs ∧ Below w.heap.size w w' := by
  obtain ⟨hl, hsm2⟩ := hsm
  have hmk := fun W => run_make_fill ei_fl (fun _ : FlD => [.slice none 0 0, .int .i64 0, .int .i64 0, .int .i64 0, .int .i64 0, .int .i64 0, .slice none 0 0]) fs (by omega) W
  have H := Lib.hid h
  have Hsm := Lib.hid hsm2
  clear h hsm2
  go_enter Tryz.func34, Tryz.ntmps34
  go_wp2_with fail
  go_loopw [4] (fun i wr => ∃ (k : Nat) (cs : List Value), k ≤ fs.length ∧ i = .int .i64 k ∧ Row wr w.heap.size 50 cs ∧ FlRow w.heap.size wr fs k cs ∧ Below w.heap.size w wr) (fun i _ => fs.length - (intOf i).toNat)
  case atStart => exact ⟨0, _, Nat.zero_le _, rfl, Row.new _ _ _, ⟨by rw [fillC_len (sz := 7) (fun _ => rfl) rfl (Nat.zero_le _)], fun j _ hj => by omega⟩, ext_alloc _ _⟩
  case round =>
    obtain ⟨k, cs, hk, rfl, hr, hf, hbw⟩ := hrel
    have R := Lib.hid hr
    have F := Lib.hid hf
    have E := Lib.hid hbw
    have hz : w.heap.size < wr.heap.size := hr.lt
    clear hmk hr hf hbw
    by_cases hlt : k < fs.length
    · obtain ⟨b, off, hA, _, hc⟩ := (H.out.ext flR_stab E.out).fls (by omega)
      obtain ⟨A1, c1, A2, c2, hp, x0, x1, x2, x3, x4, x5, x6⟩ := hc k hlt
      have KT := Lib.hid (c_toFill A1 c1 fs[k] A2 c2 wr hp.1 hp.2.2.1 (Hsm.out _ (List.getElem_mem hlt)))
      obtain ⟨x, hx⟩ : ∃ x, fs[k] = x := ⟨_, rfl⟩
      have Hx := Lib.hid hx
      rw [hx] at x0 x1 x2 x3 x4 x5 x6 KT
      clear hx
      have hkI : (k : Int) < (fs.length : Int) := by omega
      have hkI2 : decide ((k : Int) < (fs.length : Int)) = true := by simp; omega
      clear hc hp
      subst hA
      have hb7 : k * 7 + 7 ≤ cs.length := by
        rw [F.out.1]; have := Nat.mul_le_mul_right 7 (show k + 1 ≤ fs.length from hlt); omega
      go_wp2_with fail
      refine (KT.out).mono ?_
      rintro e w1 ⟨us, rfl, hu, hb⟩
      replace R := Lib.hid (R.out.ext hb)
      have lR := R.out.lt
      replace F := Lib.hid (F.out.ext hb)
      replace E := Lib.hid (Ext.trans E.out hb)
      clear hb
      obtain ⟨b1, sp, b2, rfl, hu2⟩ := hu
      have Hu : Hid (flO w.heap.size w1 fs[k] (flC (some ⟨b1, 0, none⟩) x.1.length x.1.length x.2.1 x.2.2.1 x.2.2.2.1 (some ⟨b2, 0, none⟩) x.2.2.2.2.length x.2.2.2.2.length)) := Lib.hid (by
        rw [Hx.out]; exact flO_rebase (by omega) ⟨b1, sp, b2, rfl, hu2⟩)
      clear hu2 x0 x1 x2 x3 x4 x5 x6
      have y0 := R.out.cell_of (List.getElem?_eq_getElem (show k * 7 < cs.length by omega))
      have y1 := R.out.cell_of (List.getElem?_eq_getElem (show k * 7 + 1 < cs.length by omega))
      have y2 := R.out.cell_of (List.getElem?_eq_getElem (show k * 7 + 2 < cs.length by omega))
      have y3 := R.out.cell_of (List.getElem?_eq_getElem (show k * 7 + 3 < cs.length by omega))
      have y4 := R.out.cell_of (List.getElem?_eq_getElem (show k * 7 + 4 < cs.length by omega))
      have y5 := R.out.cell_of (List.getElem?_eq_getElem (show k * 7 + 5 < cs.length by omega))
      have y6 := R.out.cell_of (List.getElem?_eq_getElem (show k * 7 + 6 < cs.length by omega))
      have f0 := R.out.frozen (k * 7)
      have f1 := R.out.frozen (k * 7 + 1)
      have f2 := R.out.frozen (k * 7 + 2)
      have f3 := R.out.frozen (k * 7 + 3)
      have f4 := R.out.frozen (k * 7 + 4)
      have f5 := R.out.frozen (k * 7 + 5)
      have f6 := R.out.frozen (k * 7 + 6)
      generalize cs[k * 7] = z0 at *
      generalize cs[k * 7 + 1] = z1 at *
      generalize cs[k * 7 + 2] = z2 at *
      generalize cs[k * 7 + 3] = z3 at *
      generalize cs[k * 7 + 4] = z4 at *
      generalize cs[k * 7 + 5] = z5 at *
      generalize cs[k * 7 + 6] = z6 at *
      dsimp only [flC]
      go_wp2
      go_roundw
      case rel => exact ⟨k + 1, setAll cs (k * 7) (flC (some ⟨b1, 0, none⟩) x.1.length x.1.length x.2.1 x.2.2.1 x.2.2.2.1 (some ⟨b2, 0, none⟩) x.2.2.2.2.length x.2.2.2.2.length), by omega, by go_num, ((((((R.out.set_ (k * 7) _).set_ (k * 7 + 1) _).set_ (k * 7 + 2) _).set_ (k * 7 + 3) _).set_ (k * 7 + 4) _).set_ (k * 7 + 5) _).set_ (k * 7 + 6) _,
        F.out.put hlt R.out Hu.out rfl (sets7 w1 w.heap.size (k * 7) _ _ _ _ _ _ _), below_set E.out (sets7 w1 w.heap.size (k * 7) _ _ _ _ _ _ _) (Nat.le_refl _) E.out.size⟩
      case measure => simp [intOf]; omega
    · obtain rfl : k = fs.length := by omega
      go_wp2
      go_ret
      exact ⟨_, cs, rfl, Nat.le_refl _, R.out, F.out, E.out⟩
/-- A type that rows of fills do not have. -/
def FarT (e : TypeId) : Prop := e ≠ 45 ∧ e ≠ 128 ∧ e ≠ 168
theorem TX_ne : FarT 42 := ⟨by decide, by decide, by decide⟩
theorem flO_keptS {B g : Nat} {e : TypeId} {w w' : World} {x : FlD} {us cs : List Value} (h : flO B w x us) (hr : Row w g e cs) (he : FarT e) (hg : w.grownBy w' (some g)) : flO B w' x us := by
  obtain ⟨b1, sp, b2, h0, h1, h2, h3, h4⟩ := h
  exact ⟨b1, sp, b2, h0, h1.keptB hr he.1 he.2.1 hg, h2, h3.keptG hg (row_ne h3 hr (Ne.symm he.2.2)), h4⟩
theorem FlRow.keptS {B g k : Nat} {e : TypeId} {w w' : World} {fs : List FlD} {cs cs' : List Value} (h : FlRow B w fs k cs) (hr : Row w g e cs') (he : FarT e) (hg : w.grownBy w' (some g)) : FlRow B w' fs k cs :=
  ⟨h.1, fun j hj hk => by obtain ⟨us, h1, h2⟩ := h.2 j hj hk; exact ⟨us, flO_keptS h1 hr he hg, h2⟩⟩
theorem FlRow.rebase {B B' k : Nat} {w : World} {fs : List FlD} {cs : List Value} (h : FlRow B w fs k cs) (hB : B' ≤ B) : FlRow B' w fs k cs :=
  ⟨h.1, fun j hj hk => by obtain ⟨us, h1, h2⟩ := h.2 j hj hk; exact ⟨us, flO_rebase hB h1, h2⟩⟩
set_option maxRecDepth 100000 in
set_option maxHeartbeats 4000000 in
theorem c_toScene (W H : Int) (A : Option Addr) (cap : Nat) (fs : List FlD) (w : World) (h : Fls w A fs) (hsm : flsSm fs) :
    Calls Tryz.prog 8 #[.agg #[.int .i64 W, .int .i64 H, .slice A fs.length cap]] w fun e w' => ∃ b cs, e = .returned (.agg #[.int .i64 W, .int .i64 H, .slice (some ⟨b, 0, none⟩) fs.length fs.length]) ∧ w.heap.size ≤ b ∧ Row w' b 50 cs ∧ FlRow w.heap.size w' fs fs.length cs ∧ Below w.heap.size w w' := by
  have Hf := Lib.hid h
  have HW := Lib.hid h
  have E := Lib.hid (Below.refl w.heap.size w)
  clear h
  go_enter Tryz.func8, Tryz.ntmps8
  go_wp2_with fail
  first | refine gen_calls ?_ | refine gen_code ?_ | refine gen_list ?_
  intro w0 hW
  obtain ⟨hb, hR1, hR2, hR3⟩ := new3 hW
  clear hW
  replace E := Lib.hid (Ext.trans E.out hb)
  clear hb
  have R1 := Lib.hid hR1
  have lR1 := R1.out.lt
  clear hR1
  have R2 := Lib.hid hR2
  have lR2 := R2.out.lt
  clear hR2
  have R3 := Lib.hid hR3
  have lR3 := R3.out.lt
  clear hR3
  have hl0 := R3.out.lt
  refine (c_toFillS A cap fs w0 (HW.out.ext flR_stab E.out) hsm).mono ?_
  rintro e w1 ⟨b, cs, rfl, hb0, hr, hf, hb⟩
  replace E := Lib.hid (Ext.trans E.out hb)
  replace R1 := Lib.hid (R1.out.ext hb)
  have lR1 := R1.out.lt
  replace R2 := Lib.hid (R2.out.ext hb)
  have lR2 := R2.out.lt
  replace R3 := Lib.hid (R3.out.ext hb)
  have lR3 := R3.out.lt
  clear hb
  have RB := Lib.hid hr
  have F := Lib.hid hf
  clear hr hf
  have d0 := R3.out.cell_of (i := 0) rfl
  have zd0 := R3.out.frozen 0
  have d1 := R3.out.cell_of (i := 1) rfl
  have zd1 := R3.out.frozen 1
  have d2 := R3.out.cell_of (i := 2) rfl
  have zd2 := R3.out.frozen 2
  have x0 := R2.out.cell_of (i := 0) rfl
  have zx0 := R2.out.frozen 0
  have x1 := R2.out.cell_of (i := 1) rfl
  have zx1 := R2.out.frozen 1
  have x2 := R2.out.cell_of (i := 2) rfl
  have zx2 := R2.out.frozen 2
  go_wp2
  clear d0 zd0 d1 zd1 d2 zd2 x0 zx0 x1 zx1 x2 zx2
  refine gen_post (fun Wd hW => ?_)
  obtain ⟨Wm, hWm⟩ : ∃ Wm, w1.setCell ⟨w.heap.size + 1 + 1, 2, none⟩ (.slice (some ⟨b, 0, none⟩) fs.length fs.length) = Wm := ⟨_, rfl⟩
  rw [hWm] at hW
  have hg1 : w1.grownBy Wm (some (w.heap.size + 1 + 1)) := by rw [← hWm]; exact set_grown w1 _ 2 _
  have hg2 : Wm.grownBy Wd (some (w.heap.size + 1)) := by rw [hW]; exact sets3 Wm _ 0 _ _ _
  have C2 := R2.out.keptG hg1 (by omega)
  have D2 : Row Wd (w.heap.size + 1) 42 [.int .i64 W, .int .i64 H, .slice (some ⟨b, 0, none⟩) fs.length fs.length] := by
    rw [hW]; exact ((C2.set_ 0 _).set_ 1 _).set_ 2 _
  have RB3 := (RB.out.keptG hg1 (by omega)).keptG hg2 (by omega)
  have F3 := (F.out.keptS R3.out TX_ne hg1).keptS C2 TX_ne hg2
  have E3 := below_set (below_set E.out hg1 (by omega) E.out.size) hg2 (by omega) (by have := hg1.size; have := E.out.size; omega)
  have y0 := D2.cell_of (i := 0) rfl
  have y1 := D2.cell_of (i := 1) rfl
  have y2 := D2.cell_of (i := 2) rfl
  exact bodyPost_ret (v := .agg #[.int .i64 W, .int .i64 H, .slice (some ⟨b, 0, none⟩) fs.length fs.length]) (by simp [results, Tryz.results8, go_sem, y0, y1, y2]) rfl
    ⟨b, cs, rfl, by omega, RB3, F3.rebase (by omega), E3⟩
end Go.Proofs.YtagmnbphbakikaaGreat
