/-
  Fills and scenes as arguments: how large they are.
-/
import Derived.Test.YtjgpojegaojnmaaGreatMg6
import Derived.Test.YtjgpojegaojnmaaGreatPaintE
namespace Go.Proofs.YtjgpojegaojnmaaGreat
open Go Go.RowKit Reg
attribute [local go_sem] calmAt calmUpon
/-- A fill: its path, its rule, its paint. -/
abbrev FlD := List Vb × Int × Pt × Pt × List St
/-- The cells of a fill. -/
abbrev flC (A1 : Option Addr) (n1 c1 : Nat) (q : Int) (f t : Pt) (A2 : Option Addr) (n2 c2 : Nat) : List Value := [.slice A1 n1 c1, .int .i64 q, .int .i64 f.1, .int .i64 f.2, .int .i64 t.1, .int .i64 t.2, .slice A2 n2 c2]
abbrev flV (A1 : Option Addr) (n1 c1 : Nat) (q : Int) (f t : Pt) (A2 : Option Addr) (n2 c2 : Nat) : Value := .agg #[.slice A1 n1 c1, .int .i64 q, .int .i64 f.1, .int .i64 f.2, .int .i64 t.1, .int .i64 t.2, .slice A2 n2 c2]
def flR : World → FlD → List Value → Prop := fun w x us => ∃ A1 c1 A2 c2, us = flC A1 x.1.length c1 x.2.1 x.2.2.1 x.2.2.2.1 A2 x.2.2.2.2.length c2 ∧ VbK w A1 x.1 ∧ SlOk A1 x.1.length c1 ∧ Sts w A2 x.2.2.2.2 ∧ SlOk A2 x.2.2.2.2.length c2
theorem flR_stab : Stab flR := by
  rintro w w' x us ⟨A1, c1, A2, c2, e, h1, h2, h3, h4⟩ hx
  exact ⟨A1, c1, A2, c2, e, h1.ext verbK_stab hx, h2, h3.ext stR_stab hx, h4⟩
abbrev Fls (w : World) (A : Option Addr) (fs : List FlD) : Prop := In flR 7 w A fs
theorem In.fls {w : World} {A : Option Addr} {fs : List FlD} (h : Fls w A fs) (hn : 0 < fs.length) : ∃ b off, A = some ⟨b, off, none⟩ ∧ b < w.heap.size ∧
    ∀ (k : Nat) (h : k < fs.length), ∃ A1 c1 A2 c2, (VbK w A1 fs[k].1 ∧ SlOk A1 fs[k].1.length c1 ∧ Sts w A2 fs[k].2.2.2.2 ∧ SlOk A2 fs[k].2.2.2.2.length c2) ∧
      w.cell? ⟨b, off + k * 7, none⟩ = some (.slice A1 fs[k].1.length c1) ∧ w.cell? ⟨b, off + k * 7 + 1, none⟩ = some (.int .i64 fs[k].2.1) ∧ w.cell? ⟨b, off + k * 7 + 2, none⟩ = some (.int .i64 fs[k].2.2.1.1) ∧ w.cell? ⟨b, off + k * 7 + 3, none⟩ = some (.int .i64 fs[k].2.2.1.2) ∧
      w.cell? ⟨b, off + k * 7 + 4, none⟩ = some (.int .i64 fs[k].2.2.2.1.1) ∧ w.cell? ⟨b, off + k * 7 + 5, none⟩ = some (.int .i64 fs[k].2.2.2.1.2) ∧ w.cell? ⟨b, off + k * 7 + 6, none⟩ = some (.slice A2 fs[k].2.2.2.2.length c2) := by
  have hlt := h.lt (by omega) hn
  obtain ⟨b, off, hA, hc⟩ := h hn
  refine ⟨b, off, hA, hlt b off hA, fun k hk => ?_⟩
  obtain ⟨us, ⟨A1, c1, A2, c2, e, h1, h2, h3, h4⟩, _, h5⟩ := hc k hk
  subst e
  exact ⟨A1, c1, A2, c2, ⟨h1, h2, h3, h4⟩, h5 0 _ rfl, h5 1 _ rfl, h5 2 _ rfl, h5 3 _ rfl, h5 4 _ rfl, h5 5 _ rfl, h5 6 _ rfl⟩
/-- Small enough to be copied. -/
def flSm (f : FlD) : Prop := f.1.length ≤ 1048576 ∧ vbSum f.1 ≤ 1048576 ∧ (∀ v ∈ f.1, v.2.length ≤ 1048576) ∧ f.2.2.2.2.length ≤ 1048576
def flsSm (fs : List FlD) : Prop := fs.length ≤ 1048576 ∧ ∀ f ∈ fs, flSm f
set_option maxRecDepth 100000 in
set_option maxHeartbeats 2000000 in
theorem c_szVerbSG (left : Int) (A : Option Addr) (cap : Nat) (vs : List Vb) (w : World) (h0 : 0 ≤ left) (h1 : left ≤ 1048576) (h : Vbs w A vs) (hl : vs.length ≤ 9223372036854775807) (hb : ∀ v ∈ vs, v.2.length ≤ 9223372036854775807) :
    Calls Tryz.prog 38 #[.slice A vs.length cap, .int .i64 left] w fun e w' => ∃ m : Int, e = .returned (.int .i64 m) ∧ (0 ≤ m → m ≤ left ∧ (vs.length ≤ 1048576 ∧ vbSum vs ≤ 1048576) ∧ ∀ v ∈ vs, v.2.length ≤ 1048576) ∧ Below w.heap.size w w' := by
  have H := Lib.hid h
  have Hb := Lib.hid hb
  clear h hb
  by_cases hn : left - (vs.length : Int) < 0
  · go_enter Tryz.func38, Tryz.ntmps38
    go_wp2
    go_ret
    exact ⟨-1, rfl, fun h => by omega, Below.refl _ _⟩
  · go_enter Tryz.func38, Tryz.ntmps38
    go_wp2_with fail
    go_loopw [1, 5] (fun l i wr => ∃ (k : Nat) (m : Int), k ≤ vs.length ∧ i = .int .i64 k ∧ l = .int .i64 m ∧ 0 ≤ m ∧ m + vbSum (vs.take k) ≤ left ∧ (∀ v ∈ vs.take k, v.2.length ≤ 1048576) ∧ Ext w wr) (fun _ i _ => vs.length - (intOf i).toNat)
    case atStart => exact ⟨0, _, Nat.zero_le _, rfl, rfl, by omega, by simp [vbSum]; omega, fun r hr => by simp at hr, Below.refl _ _⟩
    case round =>
      obtain ⟨k, m, hk, rfl, rfl, hm0, hm1, hal, hbw⟩ := hrel
      have E := Lib.hid hbw
      have Hal := Lib.hid hal
      clear hbw hal
      by_cases hlt : k < vs.length
      · obtain ⟨b, off, hA, _, hc⟩ := (H.out.ext verbR_stab E.out).vbs (by omega)
        obtain ⟨A', cap', cx, cy, hp⟩ := hc k hlt
        have hz := Hb.out _ (List.getElem_mem hlt)
        have hvt := vbSum_take hlt
        have Hal2 : Hid (vs[k].2.length ≤ 1048576 → ∀ r ∈ vs.take (k + 1), r.2.length ≤ 1048576) := Lib.hid (fun h1 r hr => by
          rw [List.take_succ_eq_append_getElem hlt] at hr
          rcases List.mem_append.1 hr with hr | hr
          · exact Hal.out r hr
          · simp at hr; subst hr; exact h1)
        clear hc hp
        generalize vs[k] = v at *
        obtain ⟨q, ps⟩ := v
        dsimp only at cx cy hz Hal2 hvt
        subst hA
        by_cases hd : m - (ps.length : Int) < 0
        · have hv : (if m - (ps.length : Int) < 0 then (-1 : Int) else m - ps.length) = -1 := if_pos hd
          have Hv := Lib.hid hv
          clear hv
          go_wp2_with fail
          refine (c_szVerb q A' ps.length cap' m _ hm0 (by omega) (by omega)).mono ?_; rw [Hv.out]; rintro e w0 ⟨rfl, hb0⟩
          replace E := Lib.hid (Ext.trans E.out (Ext.trans (by repeat (first | exact Below.refl _ _ | assumption | refine Below.drew ?_ | refine Below.alloc ?_ (by first | exact Nat.le_refl _ | omega | (simp; done) | (simp; omega)) _ | refine Below.setCell ?_ (by first | exact Nat.le_refl _ | omega | (simp; done) | (simp; omega)) _)) hb0))
          clear hb0
          go_wp2
          go_ret
          exact ⟨-1, rfl, fun h => by omega, E.out⟩
        · have hv : (if m - (ps.length : Int) < 0 then (-1 : Int) else m - ps.length) = m - ps.length := if_neg hd
          have Hv := Lib.hid hv
          clear hv
          go_wp2_with fail
          refine (c_szVerb q A' ps.length cap' m _ hm0 (by omega) (by omega)).mono ?_; rw [Hv.out]; rintro e w0 ⟨rfl, hb0⟩
          replace E := Lib.hid (Ext.trans E.out (Ext.trans (by repeat (first | exact Below.refl _ _ | assumption | refine Below.drew ?_ | refine Below.alloc ?_ (by first | exact Nat.le_refl _ | omega | (simp; done) | (simp; omega)) _ | refine Below.setCell ?_ (by first | exact Nat.le_refl _ | omega | (simp; done) | (simp; omega)) _)) hb0))
          clear hb0
          go_wp2
          go_roundw
          case rel => exact ⟨k + 1, m - ps.length, by omega, by go_num, rfl, by omega, by omega, Hal2.out (by omega), E.out⟩
          case measure => simp [intOf]; omega
      · have hk' : k = vs.length := by omega
        have Hf : Hid (∀ v ∈ vs, v.2.length ≤ 1048576) := Lib.hid (by have := Hal.out; rw [hk', List.take_length] at this; exact this)
        go_wp2
        go_ret
        rw [hk', List.take_length] at hm1
        exact ⟨m, rfl, fun _ => ⟨by omega, ⟨by omega, by omega⟩, Hf.out⟩, E.out⟩
set_option maxHeartbeats 1000000 in
theorem c_szPaintG (left : Int) (f t : Pt) (A : Option Addr) (n cap : Nat) (w : World) (h0 : 0 ≤ left) (h1 : left ≤ 1048576) (hn : n ≤ 9223372036854775807) :
    Calls Tryz.prog 39 #[paV f t A n cap, .int .i64 left] w fun e w' => e = .returned (.int .i64 (if left - n < 0 then -1 else left - n)) ∧ Below w.heap.size w w' := by
  have K := Lib.hid (fun W => c_szStopS A n cap left W (by omega) (by omega) hn)
  have E := Lib.hid (Below.refl w.heap.size w)
  by_cases h : left - (n : Int) < 0
  · have hv : (if left - (n : Int) < 0 then (-1 : Int) else left - n) = -1 := if_pos h
    rw [hv] at K ⊢
    clear hv
    go_enter Tryz.func39, Tryz.ntmps39
    go_wp2_with fail
    first | refine gen_calls ?_ | refine gen_code ?_ | refine gen_list ?_
    intro w0 hW
    obtain ⟨hb, hR0⟩ := new1 hW
    clear hW
    replace E := Lib.hid (Ext.trans E.out hb)
    clear hb
    have R0 := Lib.hid hR0
    have lR0 := R0.out.lt
    clear hR0
    have c0 := R0.out.cell_of (i := 0) rfl
    have c1 := R0.out.cell_of (i := 1) rfl
    have c2 := R0.out.cell_of (i := 2) rfl
    have c3 := R0.out.cell_of (i := 3) rfl
    have c4 := R0.out.cell_of (i := 4) rfl
    go_wp2_with fail
    refine (K.out _).mono ?_
    rintro e w' ⟨rfl, rfl⟩
    go_wp2
    go_ret
    exact ⟨rfl, E.out⟩
  · have hv : (if left - (n : Int) < 0 then (-1 : Int) else left - n) = left - n := if_neg h
    rw [hv] at K ⊢
    clear hv
    go_enter Tryz.func39, Tryz.ntmps39
    go_wp2_with fail
    first | refine gen_calls ?_ | refine gen_code ?_ | refine gen_list ?_
    intro w0 hW
    obtain ⟨hb, hR0⟩ := new1 hW
    clear hW
    replace E := Lib.hid (Ext.trans E.out hb)
    clear hb
    have R0 := Lib.hid hR0
    have lR0 := R0.out.lt
    clear hR0
    have c0 := R0.out.cell_of (i := 0) rfl
    have c1 := R0.out.cell_of (i := 1) rfl
    have c2 := R0.out.cell_of (i := 2) rfl
    have c3 := R0.out.cell_of (i := 3) rfl
    have c4 := R0.out.cell_of (i := 4) rfl
    go_wp2_with fail
    refine (K.out _).mono ?_
    rintro e w' ⟨rfl, rfl⟩
    go_wp2
    go_ret
    exact ⟨rfl, E.out⟩
set_option maxRecDepth 100000 in
set_option maxHeartbeats 2000000 in
theorem c_szFill (left : Int) (A1 : Option Addr) (c1 : Nat) (x : FlD) (A2 : Option Addr) (c2 : Nat) (w : World) (h0 : 0 ≤ left) (h1 : left ≤ 1048576) (hv : VbK w A1 x.1) (s1 : SlOk A1 x.1.length c1) (s2 : SlOk A2 x.2.2.2.2.length c2) :
    Calls Tryz.prog 18 #[flV A1 x.1.length c1 x.2.1 x.2.2.1 x.2.2.2.1 A2 x.2.2.2.2.length c2, .int .i64 left] w fun e w' => ∃ m : Int, e = .returned (.int .i64 m) ∧ (0 ≤ m → m ≤ left ∧ flSm x) ∧ Below w.heap.size w w' := by
  obtain ⟨vs, q, f, t, ss⟩ := x
  have hl1 : vs.length ≤ 9223372036854775807 := by have h := s1.2; unfold maxLen at h; dsimp only at h; omega
  have hl2 : ss.length ≤ 9223372036854775807 := by have h := s2.2; unfold maxLen at h; dsimp only at h; omega
  have KV := Lib.hid (fun W (hW : Vbs W A1 vs) => c_szVerbSG left A1 c1 vs W h0 h1 hW hl1 (vbk_len hv))
  have H := Lib.hid hv.toV
  have E := Lib.hid (Below.refl w.heap.size w)
  obtain ⟨fx, fy⟩ := f
  obtain ⟨tx, ty⟩ := t
  dsimp only at H
  clear hv s1 s2
  go_enter Tryz.func18, Tryz.ntmps18
  go_wp2_with fail
  first | refine gen_calls ?_ | refine gen_code ?_ | refine gen_list ?_
  intro w0 hW
  obtain ⟨hb, hR0⟩ := new1 hW
  clear hW
  replace E := Lib.hid (Ext.trans E.out hb)
  replace H := Lib.hid (H.out.ext verbR_stab hb)
  clear hb
  have R0 := Lib.hid hR0
  have lR0 := R0.out.lt
  clear hR0
  have k0 := R0.out.cell_of (i := 0) rfl
  have k1 := R0.out.cell_of (i := 1) rfl
  have k2 := R0.out.cell_of (i := 2) rfl
  have k3 := R0.out.cell_of (i := 3) rfl
  have k4 := R0.out.cell_of (i := 4) rfl
  have k5 := R0.out.cell_of (i := 5) rfl
  have k6 := R0.out.cell_of (i := 6) rfl
  go_wp2_with fail
  clear k0 k1 k2 k3 k4 k5 k6
  refine (KV.out _ H.out).mono ?_
  rintro e w1 ⟨m, rfl, hm, hb⟩
  replace E := Lib.hid (Ext.trans E.out hb)
  replace H := Lib.hid (H.out.ext verbR_stab hb)
  replace R0 := Lib.hid (R0.out.ext hb)
  have lR0 := R0.out.lt
  clear hb
  have k0 := R0.out.cell_of (i := 0) rfl
  have k1 := R0.out.cell_of (i := 1) rfl
  have k2 := R0.out.cell_of (i := 2) rfl
  have k3 := R0.out.cell_of (i := 3) rfl
  have k4 := R0.out.cell_of (i := 4) rfl
  have k5 := R0.out.cell_of (i := 5) rfl
  have k6 := R0.out.cell_of (i := 6) rfl
  have Hm := Lib.hid hm
  clear hm
  by_cases hneg : m < 0
  · go_wp2
    go_ret
    exact ⟨-1, rfl, fun h => by omega, E.out⟩
  · obtain ⟨m1, m2, m3⟩ := Hm.out (by omega)
    have M3 := Lib.hid (And.intro m2 m3)
    have KP := Lib.hid (fun W => c_szPaintG m (fx, fy) (tx, ty) A2 ss.length c2 W (by omega) (by omega) hl2)
    clear m2 m3
    by_cases hd : m - (ss.length : Int) < 0
    · have hv : (if m - (ss.length : Int) < 0 then (-1 : Int) else m - ss.length) = -1 := if_pos hd
      rw [hv] at KP
      clear hv
      go_wp2_with fail
      clear k0 k1 k2 k3 k4 k5 k6
      refine (KP.out _).mono ?_
      rintro e w2 ⟨rfl, hb⟩
      replace E := Lib.hid (Ext.trans E.out hb)
      replace H := Lib.hid (H.out.ext verbR_stab hb)
      replace R0 := Lib.hid (R0.out.ext hb)
      have lR0 := R0.out.lt
      clear hb
      have k0 := R0.out.cell_of (i := 0) rfl
      have k1 := R0.out.cell_of (i := 1) rfl
      have k2 := R0.out.cell_of (i := 2) rfl
      have k3 := R0.out.cell_of (i := 3) rfl
      have k4 := R0.out.cell_of (i := 4) rfl
      have k5 := R0.out.cell_of (i := 5) rfl
      have k6 := R0.out.cell_of (i := 6) rfl
      go_wp2
      go_ret
      exact ⟨-1, rfl, fun h => by omega, E.out⟩
    · have hv : (if m - (ss.length : Int) < 0 then (-1 : Int) else m - ss.length) = m - ss.length := if_neg hd
      rw [hv] at KP
      clear hv
      go_wp2_with fail
      clear k0 k1 k2 k3 k4 k5 k6
      refine (KP.out _).mono ?_
      rintro e w2 ⟨rfl, hb⟩
      replace E := Lib.hid (Ext.trans E.out hb)
      replace H := Lib.hid (H.out.ext verbR_stab hb)
      replace R0 := Lib.hid (R0.out.ext hb)
      have lR0 := R0.out.lt
      clear hb
      have k0 := R0.out.cell_of (i := 0) rfl
      have k1 := R0.out.cell_of (i := 1) rfl
      have k2 := R0.out.cell_of (i := 2) rfl
      have k3 := R0.out.cell_of (i := 3) rfl
      have k4 := R0.out.cell_of (i := 4) rfl
      have k5 := R0.out.cell_of (i := 5) rfl
      have k6 := R0.out.cell_of (i := 6) rfl
      go_wp2
      go_ret
      exact ⟨m - ss.length, rfl, fun _ => ⟨by omega, M3.out.1.1, M3.out.1.2, M3.out.2, by show ss.length ≤ 1048576; omega⟩, E.out⟩
set_option maxRecDepth 100000 in
set_option maxHeartbeats 2000000 in
theorem c_szFillS (left : Int) (A : Option Addr) (cap : Nat) (fs : List FlD) (w : World) (h0 : 0 ≤ left) (h1 : left ≤ 1048576) (h : Fls w A fs) (hl : fs.length ≤ 9223372036854775807) :
    Calls Tryz.prog 27 #[.slice A fs.length cap, .int .i64 left] w fun e w' => ∃ m : Int, e = .returned (.int .i64 m) ∧ (0 ≤ m → m ≤ left ∧ flsSm fs) ∧ Below w.heap.size w w' := by
  have H := Lib.hid h
  clear h
  by_cases hn : left - (fs.length : Int) < 0
  · go_enter Tryz.func27, Tryz.ntmps27
    go_wp2
    go_ret
    exact ⟨-1, rfl, fun h => by omega, Below.refl _ _⟩
  · go_enter Tryz.func27, Tryz.ntmps27
    go_wp2_with fail
    go_loopw [1, 5] (fun l i wr => ∃ (k : Nat) (m : Int), k ≤ fs.length ∧ i = .int .i64 k ∧ l = .int .i64 m ∧ 0 ≤ m ∧ m ≤ left ∧ (∀ f ∈ fs.take k, flSm f) ∧ Ext w wr) (fun _ i _ => fs.length - (intOf i).toNat)
    case atStart => exact ⟨0, _, Nat.zero_le _, rfl, rfl, by omega, by omega, fun r hr => by simp at hr, Below.refl _ _⟩
    case round =>
      obtain ⟨k, m, hk, rfl, rfl, hm0, hm1, hal, hbw⟩ := hrel
      have E := Lib.hid hbw
      have Hal := Lib.hid hal
      clear hbw hal
      by_cases hlt : k < fs.length
      · obtain ⟨b, off, hA, _, hc⟩ := (H.out.ext flR_stab E.out).fls (by omega)
        obtain ⟨A1, c1, A2, c2, hp, x0, x1, x2, x3, x4, x5, x6⟩ := hc k hlt
        have Hal2 : Hid (flSm fs[k] → ∀ r ∈ fs.take (k + 1), flSm r) := Lib.hid (fun h1 r hr => by
          rw [List.take_succ_eq_append_getElem hlt] at hr
          rcases List.mem_append.1 hr with hr | hr
          · exact Hal.out r hr
          · simp at hr; subst hr; exact h1)
        have Hp := Lib.hid hp
        clear hc hp
        subst hA
        generalize fs[k] = x at *
        have KF := Lib.hid (c_szFill m A1 c1 x A2 c2 wr hm0 (by omega) Hp.out.1 Hp.out.2.1 Hp.out.2.2.2)
        have hkI : (k : Int) < (fs.length : Int) := by omega
        go_wp2_with fail
        refine (KF.out).mono ?_
        rintro e w1 ⟨m2, rfl, hm2, hb⟩
        replace E := Lib.hid (Ext.trans E.out hb)
        clear hb
        have Hm2 := Lib.hid hm2
        clear hm2 x0 x1 x2 x3 x4 x5 x6
        by_cases hneg : m2 < 0
        · go_wp2
          go_ret
          exact ⟨-1, rfl, fun h => by omega, E.out⟩
        · have hm3 := (Hm2.out (by omega)).1
          go_wp2
          go_roundw
          case rel => exact ⟨k + 1, m2, by omega, by go_num, rfl, by omega, by omega, Hal2.out (Hm2.out (by omega)).2, E.out⟩
          case measure => simp [intOf]; omega
      · have hk' : k = fs.length := by omega
        have Hf : Hid (∀ f ∈ fs, flSm f) := Lib.hid (by have := Hal.out; rw [hk', List.take_length] at this; exact this)
        go_wp2
        go_ret
        exact ⟨m, rfl, fun _ => ⟨hm1, by omega, Hf.out⟩, E.out⟩
set_option maxRecDepth 100000 in
set_option maxHeartbeats 2000000 in
theorem c_szScene (left : Int) (W H : Int) (A : Option Addr) (cap : Nat) (fs : List FlD) (w : World) (h0 : 0 ≤ left) (h1 : left ≤ 1048576) (h : Fls w A fs) (hl : fs.length ≤ 9223372036854775807) :
    Calls Tryz.prog 6 #[.agg #[.int .i64 W, .int .i64 H, .slice A fs.length cap], .int .i64 left] w fun e w' => ∃ m : Int, e = .returned (.int .i64 m) ∧ (0 ≤ m → m ≤ left ∧ flsSm fs) ∧ Below w.heap.size w w' := by
  have KF := Lib.hid (fun W hW => c_szFillS left A cap fs W h0 h1 hW hl)
  have Hf := Lib.hid h
  have E := Lib.hid (Below.refl w.heap.size w)
  clear h
  go_enter Tryz.func6, Tryz.ntmps6
  go_wp2_with fail
  first | refine gen_calls ?_ | refine gen_code ?_ | refine gen_list ?_
  intro w0 hW
  obtain ⟨hb, hR0⟩ := new1 hW
  clear hW
  replace E := Lib.hid (Ext.trans E.out hb)
  replace Hf := Lib.hid (Hf.out.ext flR_stab hb)
  clear hb
  have R0 := Lib.hid hR0
  have lR0 := R0.out.lt
  clear hR0
  have c0 := R0.out.cell_of (i := 0) rfl
  have c1 := R0.out.cell_of (i := 1) rfl
  have c2 := R0.out.cell_of (i := 2) rfl
  go_wp2_with fail
  clear c0 c1 c2
  refine (KF.out _ Hf.out).mono ?_
  rintro e w1 ⟨m, rfl, hm, hb⟩
  replace E := Lib.hid (Ext.trans E.out hb)
  replace Hf := Lib.hid (Hf.out.ext flR_stab hb)
  replace R0 := Lib.hid (R0.out.ext hb)
  have lR0 := R0.out.lt
  clear hb
  have c0 := R0.out.cell_of (i := 0) rfl
  have c1 := R0.out.cell_of (i := 1) rfl
  have c2 := R0.out.cell_of (i := 2) rfl
  have Hm := Lib.hid hm
  clear hm
  by_cases hneg : m < 0
  · go_wp2
    go_ret
    exact ⟨-1, rfl, fun h => by omega, E.out⟩
  · go_wp2
    go_ret
    exact ⟨m, rfl, Hm.out, E.out⟩
end Go.Proofs.YtjgpojegaojnmaaGreat
