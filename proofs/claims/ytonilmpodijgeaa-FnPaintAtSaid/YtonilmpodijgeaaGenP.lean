/-
  Paints drawn: colors and stops.
-/
import Derived.Test.YtonilmpodijgeaaGen
import Derived.Test.YtonilmpodijgeaaStopC
namespace Go.Proofs.Ytonilmpodijgeaa
open Go Go.RowKit Reg
attribute [local go_sem] calmAt calmUpon
def CoBd (c : Bx4) : Prop := (-1000 ≤ c.1 ∧ c.1 ≤ 1000) ∧ (-1000 ≤ c.2.1 ∧ c.2.1 ≤ 1000) ∧ (-1000 ≤ c.2.2.1 ∧ c.2.2.1 ≤ 1000) ∧ (-1000 ≤ c.2.2.2 ∧ c.2.2.2 ≤ 1000)
def plainL (r g b a : Int) : Bx4 := (rndL (r * a) 255, rndL (g * a) 255, rndL (b * a) 255, a)
set_option maxHeartbeats 2000000 in
theorem c_plain (r g b a : Int) (w : World) (hr : 0 ≤ r ∧ r ≤ 255) (hg : 0 ≤ g ∧ g ≤ 255) (hb : 0 ≤ b ∧ b ≤ 255) (ha : 0 ≤ a ∧ a ≤ 255) :
    Calls Try.prog 129 #[.int .i64 r, .int .i64 g, .int .i64 b, .int .i64 a] w fun e w' => e = .returned (bx4V (plainL r g b a)) ∧ Below w.heap.size w w' := by
  obtain ⟨r0, r1⟩ := hr
  obtain ⟨g0, g1⟩ := hg
  obtain ⟨b0, b1⟩ := hb
  obtain ⟨a0, a1⟩ := ha
  obtain ⟨p1, q1⟩ := mul_nn_bd r0 r1 a0 a1
  obtain ⟨p2, q2⟩ := mul_nn_bd g0 g1 a0 a1
  obtain ⟨p3, q3⟩ := mul_nn_bd b0 b1 a0 a1
  obtain ⟨M, hM⟩ : ∃ M, plainL r g b a = M := ⟨_, rfl⟩
  rw [hM]
  have HM := Lib.hid hM
  clear hM
  have N1 := Lib.hid (fun W => c_nearest (r * a) 255 W (by decide) (by decide) (by omega) (by omega))
  have N2 := Lib.hid (fun W => c_nearest (g * a) 255 W (by decide) (by decide) (by omega) (by omega))
  have N3 := Lib.hid (fun W => c_nearest (b * a) 255 W (by decide) (by decide) (by omega) (by omega))
  go_enter Try.func129, Try.ntmps129
  go_wp2_with fail
  refine (N1.out _).mono ?_; rintro e w' ⟨rfl, rfl⟩
  go_wp2_with fail
  refine (N2.out _).mono ?_; rintro e w' ⟨rfl, rfl⟩
  go_wp2_with fail
  refine (N3.out _).mono ?_; rintro e w' ⟨rfl, rfl⟩
  go_wp2_with fail
  rw [← HM.out]
  exact bodyPost_ret (v := bx4V (plainL r g b a)) (by simp [results, Try.results129, go_sem, plainL]) rfl ⟨rfl, (by repeat (first | exact Below.refl _ _ | assumption | refine Below.drew ?_ | refine Below.alloc ?_ (by first | exact Nat.le_refl _ | omega | (simp; done) | (simp; omega)) _ | refine Below.setCell ?_ (by first | exact Nat.le_refl _ | omega | (simp; done) | (simp; omega)) _))⟩
theorem plainL_bd {r g b a : Int} (hr : 0 ≤ r ∧ r ≤ 255) (hg : 0 ≤ g ∧ g ≤ 255) (hb : 0 ≤ b ∧ b ≤ 255) (ha : 0 ≤ a ∧ a ≤ 255) : CoBd (plainL r g b a) := by
  obtain ⟨p1, q1⟩ := mul_nn_bd hr.1 hr.2 ha.1 ha.2
  obtain ⟨p2, q2⟩ := mul_nn_bd hg.1 hg.2 ha.1 ha.2
  obtain ⟨p3, q3⟩ := mul_nn_bd hb.1 hb.2 ha.1 ha.2
  unfold CoBd plainL rndL
  dsimp only
  omega
/-- A color drawn. -/
def DrewCo (w w' : World) (e : Ending) (g N : Nat) : Prop := ∃ c : Bx4, e = .returned (bx4V c) ∧ CoBd c ∧ Rdr w' g N ∧ w.grownBy w' (some g)
set_option maxHeartbeats 2000000 in
theorem c_randomColor (g N : Nat) (w : World) (h : Rdr w g N) (hN : N + 4 ≤ 1000000) :
    Calls Try.prog 112 #[.pointer (some ⟨g, 0, none⟩)] w fun e w' => DrewCo w w' e g (N + 4) := by
  have hlt := h.lt
  have H := Lib.hid (h.ext (ext_alloc w (.cells #[.int .i64 0, .int .i64 0, .int .i64 0, .int .i64 0] 60)))
  have R0 : Hid (Row (w.alloc (.cells #[.int .i64 0, .int .i64 0, .int .i64 0, .int .i64 0] 60)) w.heap.size 60 [.int .i64 0, .int .i64 0, .int .i64 0, .int .i64 0]) := Lib.hid (Row.new w 60 [.int .i64 0, .int .i64 0, .int .i64 0, .int .i64 0])
  have G0 : Hid (w.grownBy (w.alloc (.cells #[.int .i64 0, .int .i64 0, .int .i64 0, .int .i64 0] 60)) (some g)) := Lib.hid (grown_ext (ext_alloc _ _))
  clear h
  go_enter Try.func112, Try.ntmps112
  go_wp2_with fail
  refine (c_one g N _ 6 [255, 255, 128, 0, 1, 200] _ (H.out.ext (ext_alloc _ _)) (by omega) (ints_new (w.alloc (.cells #[.int .i64 0, .int .i64 0, .int .i64 0, .int .i64 0] 60)) _ _ (by simp) rfl) (by simp) (by simp) (fun b off hA => by cases hA; omega)).mono ?_
  rintro e w1 ⟨al, rfl, hal, hr1, hg1⟩
  have hal : 0 ≤ al ∧ al ≤ 255 := by simp at hal; omega
  have R1 := Lib.hid ((R0.out.alloc _).keptR hg1 (by omega))
  have G1 := Lib.hid (grown_trans (grown_alloc G0.out _) hg1)
  have H1 := Lib.hid hr1
  clear hr1 hg1
  go_wp2_with fail
  refine (c_pick g _ 250 w1 H1.out (by omega)).mono ?_
  rintro e w2 ⟨v1, rfl, ⟨a0, a1⟩, hr2, hg2⟩
  have a1 := a1 (by decide)
  have R2 := Lib.hid (R1.out.keptR hg2 (by omega))
  have G2 := Lib.hid (grown_trans G1.out hg2)
  have H2 := Lib.hid hr2
  clear hr2 hg2
  go_wp2_with fail
  refine (c_pick g _ 250 w2 H2.out (by omega)).mono ?_
  rintro e w3 ⟨v2, rfl, ⟨b0, b1⟩, hr3, hg3⟩
  have b1 := b1 (by decide)
  have R3 := Lib.hid (R2.out.keptR hg3 (by omega))
  have G3 := Lib.hid (grown_trans G2.out hg3)
  have H3 := Lib.hid hr3
  clear hr3 hg3
  go_wp2_with fail
  refine (c_pick g _ 250 w3 H3.out (by omega)).mono ?_
  rintro e w4 ⟨v3, rfl, ⟨d0, d1⟩, hr4, hg4⟩
  have d1 := d1 (by decide)
  have R4 := Lib.hid (R3.out.keptR hg4 (by omega))
  have G4 := Lib.hid (grown_trans G3.out hg4)
  have H4 := Lib.hid hr4
  clear hr4 hg4
  have Hb := Lib.hid (plainL_bd (r := v1) (g := v2) (b := v3) (a := al) (by omega) (by omega) (by omega) hal)
  have K := Lib.hid (c_plain v1 v2 v3 al w4 (by omega) (by omega) (by omega) hal)
  generalize plainL v1 v2 v3 al = M at *
  go_wp2_with fail
  refine K.out.mono ?_
  rintro e w5 ⟨rfl, hb5⟩
  have R5 := R4.out.ext hb5
  have G5 := Lib.hid (only_ext G4.out hb5)
  have H5 := Lib.hid (H4.out.ext hb5)
  have e0 := R5.cell_of (i := 0) rfl
  have e1 := R5.cell_of (i := 1) rfl
  have e2 := R5.cell_of (i := 2) rfl
  have e3 := R5.cell_of (i := 3) rfl
  have z0 := R5.frozen 0
  have z1 := R5.frozen 1
  have z2 := R5.frozen 2
  have z3 := R5.frozen 3
  clear hb5 R5
  go_wp2_with fail
  exact bodyPost_ret (v := bx4V M) (by simp [results, Try.results112, go_sem, e0, e1, e2, e3]) rfl ⟨M, rfl, Hb.out, (((H5.out.far (by simp; omega) _).far (by simp; omega) _).far (by simp; omega) _).far (by simp; omega) _ |>.mono (by omega), grown_far (grown_far (grown_far (grown_far G5.out (by simp) _) (by simp) _) (by simp) _) (by simp) _⟩
/-- Stops drawn, in a row of their own. -/
def DrewSts (w w' : World) (e : Ending) (g N L lo : Nat) : Prop := ∃ A cap, ∃ ss : List St, e = .returned (.slice A ss.length cap) ∧ ss.length ≤ L ∧ lo ≤ ss.length ∧ Has w' w.heap.size 64 5 (.slice A ss.length cap) ss.length (ss.flatMap stC) ∧ Rdr w' g N ∧ w.grownBy w' (some g)
theorem ST_ne_RD : (64 : TypeId) ≠ 117 := by decide
set_option maxHeartbeats 4000000 in
theorem c_randomStops (g N : Nat) (w : World) (h : Rdr w g N) (hN : N + 30 ≤ 1000000) :
    Calls Try.prog 111 #[.pointer (some ⟨g, 0, none⟩)] w fun e w' => DrewSts w w' e g (N + 30) 4 1 := by
  have hlt := h.lt
  have H := Lib.hid (h.ext (ext_alloc w (.cells #[] 64)))
  have O0 := Lib.hid (own_of_row (B := w.heap.size) (sz := 5) (n := 0) (cs := []) (Row.new w 64 []) (Nat.le_refl _) rfl (by decide))
  have G0 : Hid (w.grownBy (w.alloc (.cells #[] 64)) (some g)) := Lib.hid (grown_ext (ext_alloc _ _))
  clear h
  go_enter Try.func111, Try.ntmps111
  go_wp2_with fail
  refine (c_pick g _ 60 _ H.out (by omega)).mono ?_
  rintro e w1 ⟨at0, rfl, ⟨a0, a1⟩, hr1, hg1⟩
  have a1 := a1 (by decide)
  have O1 := Lib.hid (O0.out.keptR H.out ST_ne_RD hg1)
  have G1 := Lib.hid (grown_trans G0.out hg1)
  have H1 := Lib.hid hr1
  clear hr1 hg1
  go_wp2_with fail
  refine (c_one g _ _ 5 [2, 1, 3, 1, 4] _ (H1.out.ext (ext_alloc _ _)) (by omega) (ints_new w1 _ _ rfl rfl) (by simp) (by simp) (fun b off hA => by cases hA; have := H1.out.lt; omega)).mono ?_
  rintro e w2 ⟨v, rfl, hv, hr2, hg2⟩
  have hv : 1 ≤ v ∧ v ≤ 4 := by simp at hv; omega
  obtain ⟨L, rfl⟩ : ∃ L : Nat, v = (L : Int) := ⟨v.toNat, by omega⟩
  have O2 := Lib.hid ((own_ext O1.out (ext_alloc _ _)).keptR (H1.out.ext (ext_alloc _ _)) ST_ne_RD hg2)
  have G2 := Lib.hid (grown_trans (grown_alloc G1.out _) hg2)
  have H2 := Lib.hid hr2
  clear hr2 hg2
  go_wp2_with fail
  go_loopw [3, 4, 5] (fun v at_ n wr => ∃ (m : Nat) (A : Option Addr) (cap : Nat) (ss : List St) (pl : Int), n = .int .i64 m ∧ at_ = .int .i64 pl ∧ v = .slice A ss.length cap ∧ ss.length + m ≤ 4 ∧ 1 ≤ ss.length + m ∧ (0 ≤ pl ∧ pl ≤ 60 + 61 * ss.length) ∧ Has wr w.heap.size 64 5 v ss.length (ss.flatMap stC) ∧ Rdr wr g (N + 2 + 5 * ss.length) ∧ w.grownBy wr (some g)) (fun _ _ n _ => (intOf n).toNat)
  case atStart => exact ⟨L, _, 0, [], at0, rfl, rfl, rfl, by simp; omega, by simp; omega, by simp; omega, O2.out, by simpa using H2.out, G2.out⟩
  case round =>
    obtain ⟨m, A, cap, ss, pl, rfl, rfl, rfl, hm, hm1, ⟨hp0, hp1⟩, how, hrd, hgr⟩ := hrel
    have How := Lib.hid how
    have Hrd := Lib.hid hrd
    have Hgr := Lib.hid hgr
    have hzr : w.heap.size ≤ wr.heap.size := hgr.size
    clear how hrd hgr
    by_cases h0 : 0 < m
    · go_wp2_with fail
      refine (c_randomColor g _ wr Hrd.out (by omega)).mono ?_
      rintro e w3 ⟨c, rfl, hc, hr3, hg3⟩
      have O3 := Lib.hid (How.out.keptR Hrd.out ST_ne_RD hg3)
      have R3 := Lib.hid hr3
      have G3 := Lib.hid (grown_trans Hgr.out hg3)
      have hz3 : w.heap.size ≤ w3.heap.size := G3.out.size
      have Hc := Lib.hid hc
      clear hr3 hg3 hc
      go_wp2_with (at_builtin; refine wpList_app ei_st rfl (.tmp 16) (.tmp 21) rfl rfl (own_ext O3.out (ext_alloc _ _)) rfl (src_new w3 _ [_, _, _, _, _] (m := 1) rfl (by intro u hu; simp at hu; rcases hu with rfl | rfl | rfl | rfl | rfl <;> rfl)) (by omega) (by simp; omega) ?_; intro v4 w4 hown4 hg4 hat4)
      obtain ⟨A4, cap4, hv4⟩ := own_form hown4
      have R4 := Lib.hid ((R3.out.ext (ext_alloc _ _)).grown hg4 (fun k hk => by have := (O3.out.lt k hk).1; omega))
      have G4 := Lib.hid (grown_own (grown_alloc G3.out _) hg4 (fun k hk => (O3.out.lt k hk).1))
      have O4 : Hid (Has w4 w.heap.size 64 5 v4 (ss ++ [(pl, c)]).length ((ss ++ [(pl, c)]).flatMap stC)) := Lib.hid (by
        rw [List.flatMap_append, List.length_append]; exact hown4)
      have hv4' : v4 = .slice A4 (ss ++ [(pl, c)]).length cap4 := by rw [hv4]; simp
      have hl4 : (ss ++ [(pl, c)]).length ≤ ss.length + 1 ∧ ss.length + 1 ≤ (ss ++ [(pl, c)]).length := by simp
      obtain ⟨hl4a, hl4b⟩ := hl4
      generalize ss ++ [(pl, c)] = ss4 at *
      clear hown4 hg4 hat4 hv4
      subst hv4'
      go_wp2_with fail
      refine (c_pick g _ 60 w4 R4.out (by omega)).mono ?_
      rintro e w5 ⟨v5, rfl, ⟨d0, d1⟩, hr5, hg5⟩
      have d1 := d1 (by decide)
      have O5 := Lib.hid (O4.out.keptR R4.out ST_ne_RD hg5)
      have R5 := Lib.hid hr5
      have G5 := Lib.hid (grown_trans G4.out hg5)
      clear hr5 hg5
      go_wp2
      go_roundw
      case rel => exact ⟨m - 1, A4, cap4, ss4, pl + 1 + v5, by go_num, rfl, rfl, by omega, by omega, by omega, O5.out, R5.out.mono (by omega), G5.out⟩
      case measure => simp [intOf]; omega
    · obtain rfl : m = 0 := by omega
      go_wp2
      go_ret
      exact ⟨A, cap, ss, rfl, by omega, by omega, How.out, Hrd.out.mono (by omega), Hgr.out⟩
def DrewCo0 (w w' : World) (e : Ending) (g N : Nat) : Prop := ∃ c : Bx4, e = .returned (bx4V c) ∧ Rdr w' g N ∧ w.grownBy w' (some g)
set_option maxRecDepth 100000 in
set_option maxHeartbeats 4000000 in
theorem c_anyColor (g N : Nat) (w : World) (h : Rdr w g N) (hN : N + 6 ≤ 1000000) :
    Calls Try.prog 113 #[.pointer (some ⟨g, 0, none⟩)] w fun e w' => DrewCo0 w w' e g (N + 6) := by
  have hlt := h.lt
  have H := Lib.hid (h.ext (ext_alloc w (.cells #[.int .i64 0, .int .i64 0, .int .i64 0, .int .i64 0] 60)))
  have R0 : Hid (Row (w.alloc (.cells #[.int .i64 0, .int .i64 0, .int .i64 0, .int .i64 0] 60)) w.heap.size 60 [.int .i64 0, .int .i64 0, .int .i64 0, .int .i64 0]) := Lib.hid (Row.new w 60 [.int .i64 0, .int .i64 0, .int .i64 0, .int .i64 0])
  have G0 : Hid (w.grownBy (w.alloc (.cells #[.int .i64 0, .int .i64 0, .int .i64 0, .int .i64 0] 60)) (some g)) := Lib.hid (grown_ext (ext_alloc _ _))
  clear h
  go_enter Try.func113, Try.ntmps113
  go_wp2_with fail
  refine (c_randomColor g N _ H.out (by omega)).mono ?_
  rintro e w1 ⟨⟨r, gr, b, a⟩, rfl, hc, hr1, hg1⟩
  unfold CoBd at hc
  dsimp only at hc
  obtain ⟨⟨k1, k2⟩, ⟨k3, k4⟩, ⟨k5, k6⟩, k7, k8⟩ := hc
  have R1 := Lib.hid (R0.out.keptR hg1 (by omega))
  have G1 := Lib.hid (grown_trans G0.out hg1)
  have H1 := Lib.hid hr1
  have z1 : w.heap.size + 1 ≤ w1.heap.size := by have := hg1.size; simp at this; omega
  clear hr1 hg1
  have c0 := R1.out.cell_of (i := 0) rfl
  have c1 := R1.out.cell_of (i := 1) rfl
  have c2 := R1.out.cell_of (i := 2) rfl
  have c3 := R1.out.cell_of (i := 3) rfl
  go_wp2_with fail
  have S1 := Lib.hid (Row.new w1 60 [.int .i64 r, .int .i64 gr, .int .i64 b, .int .i64 a])
  have hn1 : g < w1.heap.size := H1.out.lt
  refine (c_pick g _ 24 _ (H1.out.ext (ext_alloc _ _)) (by omega)).mono ?_
  rintro e w2 ⟨v, rfl, _, hr2, hg2⟩
  have R2 := Lib.hid ((R1.out.alloc _).keptR hg2 (by omega))
  have S2 := Lib.hid (S1.out.keptR hg2 (by omega))
  have G2 := Lib.hid (grown_trans (grown_alloc G1.out _) hg2)
  have H2 := Lib.hid hr2
  have z2 : w1.heap.size + 1 ≤ w2.heap.size := by have := hg2.size; simp at this; omega
  clear hr2 hg2 c0 c1 c2 c3
  by_cases hv0 : v = 0
  · have hb0 : (v == 0) = true := by simp [hv0]
    clear hv0
    have c0 := R2.out.cell_of (i := 0) rfl
    have c1 := R2.out.cell_of (i := 1) rfl
    have c2 := R2.out.cell_of (i := 2) rfl
    have c3 := R2.out.cell_of (i := 3) rfl
    have y0 := R2.out.frozen 0
    have y1 := R2.out.frozen 1
    have y2 := R2.out.frozen 2
    have y3 := R2.out.frozen 3
    have d0 := S2.out.cell_of (i := 0) rfl
    have d1 := S2.out.cell_of (i := 1) rfl
    have d2 := S2.out.cell_of (i := 2) rfl
    have d3 := S2.out.cell_of (i := 3) rfl
    have x0 := S2.out.frozen 0
    have x2 := S2.out.frozen 2
    have x3 := S2.out.frozen 3
    have hn2 : ¬ w.heap.size = w1.heap.size := by omega
    have hn3 : ¬ w1.heap.size = w.heap.size := by omega
    go_wp2_with fail
    exact bodyPost_ret (v := bx4V (a + 1, gr, b, a)) (by simp [results, Try.results113, go_sem, c0, c1, c2, c3]) rfl ⟨(a + 1, gr, b, a), rfl, ((((((H2.out.mono (by omega)).far (by first | (simp; done) | (simp; omega)) _).far (by first | (simp; done) | (simp; omega)) _).far (by first | (simp; done) | (simp; omega)) _).far (by first | (simp; done) | (simp; omega)) _).far (by first | (simp; done) | (simp; omega)) _), (grown_far (grown_far (grown_far (grown_far (grown_far G2.out (by first | (simp; done) | (simp; omega)) _) (by first | (simp; done) | (simp; omega)) _) (by first | (simp; done) | (simp; omega)) _) (by first | (simp; done) | (simp; omega)) _) (by first | (simp; done) | (simp; omega)) _)⟩
  · have hb0 : (v == 0) = false := by simp [hv0]
    by_cases hv1 : v = 1
    · have hb1 : (v == 1) = true := by simp [hv1]
      clear hv0 hv1
      go_wp2_with fail
      refine (c_one g _ _ 2 [-1, 256] _ (H2.out.ext (ext_alloc _ _)) (by omega) (ints_new w2 _ _ rfl rfl) (by simp) (by simp) (fun b off hA => by cases hA; omega)).mono ?_
      rintro e w3 ⟨q, rfl, hq, hr3, hg3⟩
      have hq : -1 ≤ q ∧ q ≤ 256 := by simp at hq; omega
      have R3 := (R2.out.alloc _).keptR hg3 (by omega)
      have S3 := (S2.out.alloc _).keptR hg3 (by omega)
      have H3 := Lib.hid hr3
      have G3 := Lib.hid (grown_trans (grown_alloc G2.out _) hg3)
      clear hr3 hg3
      have c0 := R3.cell_of (i := 0) rfl
      have c1 := R3.cell_of (i := 1) rfl
      have c2 := R3.cell_of (i := 2) rfl
      have c3 := R3.cell_of (i := 3) rfl
      have y0 := R3.frozen 0
      have y1 := R3.frozen 1
      have y2 := R3.frozen 2
      have y3 := R3.frozen 3
      have d0 := S3.cell_of (i := 0) rfl
      have d1 := S3.cell_of (i := 1) rfl
      have d2 := S3.cell_of (i := 2) rfl
      have d3 := S3.cell_of (i := 3) rfl
      have x0 := S3.frozen 0
      have x2 := S3.frozen 2
      have x3 := S3.frozen 3
      have hn2 : ¬ w.heap.size = w1.heap.size := by omega
      have hn3 : ¬ w1.heap.size = w.heap.size := by omega
      go_wp2_with fail
      exact bodyPost_ret (v := bx4V (r, gr, b, q)) (by simp [results, Try.results113, go_sem, c0, c1, c2, c3]) rfl ⟨(r, gr, b, q), rfl, ((((((H3.out.mono (by omega)).far (by first | (simp; done) | (simp; omega)) _).far (by first | (simp; done) | (simp; omega)) _).far (by first | (simp; done) | (simp; omega)) _).far (by first | (simp; done) | (simp; omega)) _).far (by first | (simp; done) | (simp; omega)) _), (grown_far (grown_far (grown_far (grown_far (grown_far G3.out (by first | (simp; done) | (simp; omega)) _) (by first | (simp; done) | (simp; omega)) _) (by first | (simp; done) | (simp; omega)) _) (by first | (simp; done) | (simp; omega)) _) (by first | (simp; done) | (simp; omega)) _)⟩
    · have hb1 : (v == 1) = false := by simp [hv1]
      by_cases hv2 : v = 2
      · have hb2 : (v == 2) = true := by simp [hv2]
        clear hv0 hv1 hv2
        have c0 := R2.out.cell_of (i := 0) rfl
        have c1 := R2.out.cell_of (i := 1) rfl
        have c2 := R2.out.cell_of (i := 2) rfl
        have c3 := R2.out.cell_of (i := 3) rfl
        have y0 := R2.out.frozen 0
        have y1 := R2.out.frozen 1
        have y2 := R2.out.frozen 2
        have y3 := R2.out.frozen 3
        have d0 := S2.out.cell_of (i := 0) rfl
        have d1 := S2.out.cell_of (i := 1) rfl
        have d2 := S2.out.cell_of (i := 2) rfl
        have d3 := S2.out.cell_of (i := 3) rfl
        have x0 := S2.out.frozen 0
        have x2 := S2.out.frozen 2
        have x3 := S2.out.frozen 3
        have hn2 : ¬ w.heap.size = w1.heap.size := by omega
        have hn3 : ¬ w1.heap.size = w.heap.size := by omega
        go_wp2_with fail
        exact bodyPost_ret (v := bx4V (r, gr, -1, a)) (by simp [results, Try.results113, go_sem, c0, c1, c2, c3]) rfl ⟨(r, gr, -1, a), rfl, ((((((H2.out.mono (by omega)).far (by first | (simp; done) | (simp; omega)) _).far (by first | (simp; done) | (simp; omega)) _).far (by first | (simp; done) | (simp; omega)) _).far (by first | (simp; done) | (simp; omega)) _).far (by first | (simp; done) | (simp; omega)) _), (grown_far (grown_far (grown_far (grown_far (grown_far G2.out (by first | (simp; done) | (simp; omega)) _) (by first | (simp; done) | (simp; omega)) _) (by first | (simp; done) | (simp; omega)) _) (by first | (simp; done) | (simp; omega)) _) (by first | (simp; done) | (simp; omega)) _)⟩
      · have hb2 : (v == 2) = false := by simp [hv2]
        clear hv0 hv1 hv2
        have c0 := R2.out.cell_of (i := 0) rfl
        have c1 := R2.out.cell_of (i := 1) rfl
        have c2 := R2.out.cell_of (i := 2) rfl
        have c3 := R2.out.cell_of (i := 3) rfl
        have y0 := R2.out.frozen 0
        have y1 := R2.out.frozen 1
        have y2 := R2.out.frozen 2
        have y3 := R2.out.frozen 3
        have d0 := S2.out.cell_of (i := 0) rfl
        have d1 := S2.out.cell_of (i := 1) rfl
        have d2 := S2.out.cell_of (i := 2) rfl
        have d3 := S2.out.cell_of (i := 3) rfl
        have x0 := S2.out.frozen 0
        have x2 := S2.out.frozen 2
        have x3 := S2.out.frozen 3
        have hn2 : ¬ w.heap.size = w1.heap.size := by omega
        have hn3 : ¬ w1.heap.size = w.heap.size := by omega
        go_wp2_with fail
        exact bodyPost_ret (v := bx4V (r, gr, b, a)) (by simp [results, Try.results113, go_sem, c0, c1, c2, c3]) rfl ⟨(r, gr, b, a), rfl, (((((H2.out.mono (by omega)).far (by first | (simp; done) | (simp; omega)) _).far (by first | (simp; done) | (simp; omega)) _).far (by first | (simp; done) | (simp; omega)) _).far (by first | (simp; done) | (simp; omega)) _), (grown_far (grown_far (grown_far (grown_far G2.out (by first | (simp; done) | (simp; omega)) _) (by first | (simp; done) | (simp; omega)) _) (by first | (simp; done) | (simp; omega)) _) (by first | (simp; done) | (simp; omega)) _)⟩
set_option maxRecDepth 100000 in
set_option maxHeartbeats 4000000 in
theorem c_anyStops (g N : Nat) (w : World) (h : Rdr w g N) (hN : N + 40 ≤ 1000000) :
    Calls Try.prog 82 #[.pointer (some ⟨g, 0, none⟩)] w fun e w' => DrewSts w w' e g (N + 40) 5 0 := by
  have hlt := h.lt
  go_enter Try.func82, Try.ntmps82
  go_wp2_with fail
  refine (c_randomStops g N w h (by omega)).mono ?_
  rintro e w1 ⟨A, cap, ss, rfl, hl, hl1, ho1, hr1, hg1⟩
  have O1 := Lib.hid ho1
  have H1 := Lib.hid hr1
  have G1 := Lib.hid hg1
  clear h ho1 hr1 hg1
  go_wp2_with fail
  refine (c_pick g _ 20 w1 H1.out (by omega)).mono ?_
  rintro e w2 ⟨v, rfl, _, hr2, hg2⟩
  have O2 := Lib.hid (O1.out.keptR H1.out ST_ne_RD hg2)
  have H2 := Lib.hid hr2
  have G2 := Lib.hid (grown_trans G1.out hg2)
  have hz2 : w.heap.size ≤ w2.heap.size := G2.out.size
  clear hr2 hg2
  by_cases hv0 : v = 0
  · have hb0 : (v == 0) = true := by simp [hv0]
    clear hv0
    go_wp2_with fail
    refine (c_one g _ _ 3 [0, 256, 257] _ (H2.out.ext (ext_alloc _ _)) (by omega) (ints_new w2 _ _ rfl rfl) (by simp) (by simp) (fun b off hA => by cases hA; have := H2.out.lt; omega)).mono ?_
    rintro e w3 ⟨pl, rfl, _, hr3, hg3⟩
    have O3 := Lib.hid ((own_ext O2.out (ext_alloc _ _)).keptR (H2.out.ext (ext_alloc _ _)) ST_ne_RD hg3)
    have H3 := Lib.hid hr3
    have G3 := Lib.hid (grown_trans (grown_alloc G2.out _) hg3)
    clear hr3 hg3
    go_wp2_with fail
    refine (c_randomColor g _ w3 H3.out (by omega)).mono ?_
    rintro e w4 ⟨c, rfl, _, hr4, hg4⟩
    have O4 := Lib.hid (O3.out.keptR H3.out ST_ne_RD hg4)
    have H4 := Lib.hid hr4
    have G4 := Lib.hid (grown_trans G3.out hg4)
    have hz4 : w.heap.size ≤ w4.heap.size := G4.out.size
    clear hr4 hg4
    go_wp2_with (at_builtin; refine wpList_app ei_st rfl (.tmp 10) (.tmp 17) rfl rfl (own_ext O4.out (ext_alloc _ _)) rfl (src_new w4 _ [_, _, _, _, _] (m := 1) rfl (by intro u hu; simp at hu; rcases hu with rfl | rfl | rfl | rfl | rfl <;> rfl)) (by omega) (by simp; omega) ?_; intro v5 w5 hown5 hg5 hat5)
    obtain ⟨A5, cap5, hv5⟩ := own_form hown5
    have R5 := Lib.hid ((H4.out.ext (ext_alloc _ _)).grown hg5 (fun k hk => by have := (O4.out.lt k hk).1; omega))
    have G5 := Lib.hid (grown_own (grown_alloc G4.out _) hg5 (fun k hk => (O4.out.lt k hk).1))
    have O5 : Hid (Has w5 w.heap.size 64 5 v5 (ss ++ [(pl, c)]).length ((ss ++ [(pl, c)]).flatMap stC)) := Lib.hid (by
      rw [List.flatMap_append, List.length_append]; exact hown5)
    have hv5' : v5 = .slice A5 (ss ++ [(pl, c)]).length cap5 := by rw [hv5]; simp
    have hl5 : (ss ++ [(pl, c)]).length ≤ ss.length + 1 := by simp
    generalize ss ++ [(pl, c)] = ss5 at *
    clear hown5 hg5 hat5 hv5
    subst hv5'
    go_wp2
    go_ret
    exact ⟨A5, cap5, ss5, rfl, by omega, by omega, O5.out, R5.out.mono (by omega), G5.out⟩
  · have hb0 : (v == 0) = false := by simp [hv0]
    by_cases hv1 : v = 1
    · have hb1 : (v == 1) = true := by simp [hv1]
      clear hv0 hv1
      go_wp2_with fail
      refine (c_anyColor g _ w2 H2.out (by omega)).mono ?_
      rintro e w4 ⟨⟨c1, c2, c3, c4⟩, rfl, hr4, hg4⟩
      have O4 := Lib.hid (O2.out.keptR H2.out ST_ne_RD hg4)
      have H4 := Lib.hid hr4
      have G4 := Lib.hid (grown_trans G2.out hg4)
      clear hr4 hg4
      obtain ⟨bb, rfl, hb1, hb2⟩ := own_at O4.out (by omega)
      match ss, hl1, O4 with
      | s0 :: rest, hl1, O4 =>
      obtain ⟨p0, q0⟩ := s0
      have hcell : ∀ j, j < 5 → (w4.cell? ⟨bb, j, none⟩) = (stC (p0, q0))[j]? := fun j hj => by
        rw [O4.out.cellAt j (by simp; omega)]
        simp only [List.flatMap_cons]
        rw [List.getElem?_append_left (by rw [stC_len]; exact hj)]
      have e1 := hcell 1 (by decide)
      have e2 := hcell 2 (by decide)
      have e3 := hcell 3 (by decide)
      have e4 := hcell 4 (by decide)
      simp only [stC, bxC, List.getElem?_cons_succ, List.getElem?_cons_zero] at e1 e2 e3 e4
      have f1 := O4.out.frozenAt 1
      have f2 := O4.out.frozenAt 2
      have f3 := O4.out.frozenAt 3
      have f4 := O4.out.frozenAt 4
      have st := (((O4.out.stored 1 (.int .i64 c1)).1.stored 2 (.int .i64 c2)).1.stored 3 (.int .i64 c3)).1.stored 4 (.int .i64 c4)
      have O5 : Hid (Has _ w.heap.size 64 5 (.slice (some ⟨bb, 0, none⟩) ((p0, c1, c2, c3, c4) :: rest).length cap) ((p0, c1, c2, c3, c4) :: rest).length (((p0, c1, c2, c3, c4) :: rest : List St).flatMap stC)) := Lib.hid st.1
      have R5 := Lib.hid ((((H4.out.far (p := ⟨bb, 1, none⟩) (by simp; omega) (.int .i64 c1)).far (p := ⟨bb, 2, none⟩) (by simp; omega) (.int .i64 c2)).far (p := ⟨bb, 3, none⟩) (by simp; omega) (.int .i64 c3)).far (p := ⟨bb, 4, none⟩) (by simp; omega) (.int .i64 c4))
      have G5 := Lib.hid (grown_far (grown_far (grown_far (grown_far G4.out (p := ⟨bb, 1, none⟩) (by simp; omega) (.int .i64 c1)) (p := ⟨bb, 2, none⟩) (by simp; omega) (.int .i64 c2)) (p := ⟨bb, 3, none⟩) (by simp; omega) (.int .i64 c3)) (p := ⟨bb, 4, none⟩) (by simp; omega) (.int .i64 c4))
      have i0 : (0 : Int) < (((p0, q0) :: rest).length : Int) := by rw [List.length_cons]; omega
      clear st hcell
      go_wp2_with fail
      go_ret
      exact ⟨_, cap, _, rfl, by rw [List.length_cons] at hl ⊢; omega, by omega, O5.out, R5.out.mono (by omega), G5.out⟩
    · have hb1 : (v == 1) = false := by simp [hv1]
      by_cases hv2 : v = 2
      · have hb2 : (v == 2) = true := by simp [hv2]
        clear hv0 hv1 hv2
        go_wp2
        go_ret
        exact ⟨_, 0, [], rfl, by simp, by simp, own_of_row (n := 0) (cs := []) (Row.new w2 64 []) hz2 rfl (by decide), (H2.out.ext (ext_alloc _ _)).mono (by omega), grown_alloc G2.out _⟩
      · have hb2 : (v == 2) = false := by simp [hv2]
        clear hv0 hv1 hv2
        go_wp2
        go_ret
        exact ⟨A, cap, ss, rfl, by omega, by omega, O2.out, H2.out.mono (by omega), G2.out⟩
end Go.Proofs.Ytonilmpodijgeaa
