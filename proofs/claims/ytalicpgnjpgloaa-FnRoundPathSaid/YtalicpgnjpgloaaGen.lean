/-
  Data drawn: numbers and points.
-/
import Derived.Test.YtalicpgnjpgloaaPick
import Derived.Test.YtalicpgnjpgloaaMg2
namespace Go.Proofs.Ytalicpgnjpgloaa
open Go Go.RowKit Reg
attribute [local go_sem] calmAt calmUpon

theorem ints_new (w : World) (e : TypeId) (ns : List Int) {g : Nat} (hg : g = w.heap.size) {cs : Array Value} (hcs : cs = (ns.flatMap intC).toArray) : Ints (w.alloc (.cells cs e)) (some ⟨g, 0, none⟩) ns := by
  subst hg hcs
  exact Row.in_ (rest := []) (enc := intC) (fun _ => rfl) (by simpa using Row.new w e (ns.flatMap intC)) (fun _ _ => rfl)
/-- Near the picture. -/
def SomeP (p : Pt) : Prop := (-16 ≤ p.1 ∧ p.1 ≤ 207) ∧ (-16 ≤ p.2 ∧ p.2 ≤ 207)
theorem SomeP.crd {p : Pt} (h : SomeP p) : CrdP p := by unfold SomeP at h; unfold CrdP Crd; omega
def VpP (p : Pt) : Prop := vpB p = true
theorem SomeP.vp {p : Pt} (h : SomeP p) : VpP p := by unfold SomeP at h; unfold VpP; rw [vpB_iff]; omega
/-- A point drawn of which Q holds. -/
def DrewPtQ (Q : Pt → Prop) (w w' : World) (e : Ending) (g N : Nat) : Prop := ∃ p : Pt, e = .returned (.agg #[.int .i64 p.1, .int .i64 p.2]) ∧ Q p ∧ Rdr w' g N ∧ w.grownBy w' (some g)
/-- A point drawn. -/
def DrewPt (w w' : World) (e : Ending) (g N : Nat) : Prop := ∃ p : Pt, e = .returned (.agg #[.int .i64 p.1, .int .i64 p.2]) ∧ CrdP p ∧ Rdr w' g N ∧ w.grownBy w' (some g)
theorem PT_ne_RD : (31 : TypeId) ≠ 68 := by decide
set_option maxHeartbeats 1000000 in
theorem c_somePointS (g N : Nat) (w : World) (h : Rdr w g N) (hN : N + 2 ≤ 1000000) :
    Calls Try.prog 21 #[.pointer (some ⟨g, 0, none⟩)] w fun e w' => DrewPtQ SomeP w w' e g (N + 2) := by
  have hlt := h.lt
  go_enter Try.func21, Try.ntmps21
  go_wp2_with fail
  have R0 := Lib.hid (Row.new w 31 [.int .i64 0, .int .i64 0])
  have G0 : Hid (w.grownBy (w.alloc (.cells #[.int .i64 0, .int .i64 0] 31)) (some g)) := Lib.hid (grown_ext (ext_alloc _ _))
  refine (c_pick g N 224 _ (h.ext (ext_alloc _ _)) (by omega)).mono ?_
  rintro e w1 ⟨v1, rfl, ⟨a0, a1⟩, hr1, hg1⟩
  have a1 := a1 (by decide)
  have R1 := Lib.hid (R0.out.keptR hg1 (by omega))
  have G1 := Lib.hid (grown_trans G0.out hg1)
  have HR1 := Lib.hid hr1
  clear hr1 hg1
  go_wp2_with fail
  refine (c_pick g (N + 1) 224 _ HR1.out (by omega)).mono ?_
  rintro e w2 ⟨v2, rfl, ⟨d0, d1⟩, hr2, hg2⟩
  have d1 := d1 (by decide)
  have R2 := Lib.hid (R1.out.keptR hg2 (by omega))
  have G2 := Lib.hid (grown_trans G1.out hg2)
  have HR2 := Lib.hid hr2
  have c0 := R2.out.cell_of (i := 0) rfl
  have c1 := R2.out.cell_of (i := 1) rfl
  have z0 := R2.out.frozen 0
  have z1 := R2.out.frozen 1
  clear hr2 hg2
  go_wp2_with fail
  exact bodyPost_ret (v := .agg #[.int .i64 (v1 - 16), .int .i64 (v2 - 16)]) (by simp [results, Try.results21, go_sem, c0, c1]) rfl ⟨(v1 - 16, v2 - 16), rfl, by unfold SomeP; omega, (HR2.out.far (by simp; omega) _).far (by simp; omega) _, grown_far (grown_far G2.out (by simp) _) (by simp) _⟩
theorem c_somePoint (g N : Nat) (w : World) (h : Rdr w g N) (hN : N + 2 ≤ 1000000) :
    Calls Try.prog 21 #[.pointer (some ⟨g, 0, none⟩)] w fun e w' => DrewPt w w' e g (N + 2) :=
  (c_somePointS g N w h hN).mono fun _ _ ⟨p, h1, h2, h3⟩ => ⟨p, h1, h2.crd, h3⟩
theorem c_somePointV (g N : Nat) (w : World) (h : Rdr w g N) (hN : N + 2 ≤ 1000000) :
    Calls Try.prog 21 #[.pointer (some ⟨g, 0, none⟩)] w fun e w' => DrewPtQ VpP w w' e g (N + 2) :=
  (c_somePointS g N w h hN).mono fun _ _ ⟨p, h1, h2, h3⟩ => ⟨p, h1, h2.vp, h3⟩
set_option maxHeartbeats 2000000 in
theorem c_anyPoint (g N : Nat) (w : World) (h : Rdr w g N) (hN : N + 4 ≤ 1000000) :
    Calls Try.prog 42 #[.pointer (some ⟨g, 0, none⟩)] w fun e w' => DrewPt w w' e g (N + 4) := by
  have hlt := h.lt
  go_enter Try.func42, Try.ntmps42
  go_wp2_with fail
  have R0 := Lib.hid (Row.new w 31 [.int .i64 0, .int .i64 0])
  have G0 : Hid (w.grownBy (w.alloc (.cells #[.int .i64 0, .int .i64 0] 31)) (some g)) := Lib.hid (grown_ext (ext_alloc _ _))
  refine (c_somePoint g N _ (h.ext (ext_alloc _ _)) (by omega)).mono ?_
  rintro e w1 ⟨⟨x, y⟩, rfl, hp, hr1, hg1⟩
  unfold CrdP Crd at hp
  dsimp only at hp
  have R1 := Lib.hid (R0.out.keptR hg1 (by omega))
  have G1 := Lib.hid (grown_trans G0.out hg1)
  have HR1 := Lib.hid hr1
  have z1 : w.heap.size + 1 ≤ w1.heap.size := by have := hg1.size; simp at this; omega
  clear hr1 hg1
  go_wp2_with fail
  have c0 := R1.out.cell_of (i := 0) rfl
  have c1 := R1.out.cell_of (i := 1) rfl
  go_wp2_with fail
  have S0 := Lib.hid (Row.new w1 31 [.int .i64 x, .int .i64 y])
  refine (c_pick g (N + 2) 20 _ (HR1.out.ext (ext_alloc _ _)) (by omega)).mono ?_
  rintro e w2 ⟨v, rfl, ⟨a0, a1⟩, hr2, hg2⟩
  have a1 := a1 (by decide)
  have R2 := Lib.hid ((R1.out.alloc (.cells #[.int .i64 x, .int .i64 y] 31)).keptR hg2 (by omega))
  have S2 := Lib.hid (S0.out.keptR hg2 (by have := HR1.out.lt; omega))
  have G2 := Lib.hid (grown_trans (grown_alloc G1.out _) hg2)
  have HR2 := Lib.hid hr2
  have z2 : w1.heap.size + 1 ≤ w2.heap.size := by have := hg2.size; simp at this; omega
  clear hr2 hg2 c0 c1
  have hn1 : g < w1.heap.size := HR1.out.lt
  by_cases hv0 : v = 0
  · have hb0 : (v == 0) = true := by simp [hv0]
    clear hv0 a0 a1
    go_wp2_with fail
    refine (c_one g (N + 3) _ 4 [1000, 1001, -1001, -1000] _ (HR2.out.ext (ext_alloc _ _)) (by omega) (ints_new w2 _ _ rfl rfl) (by simp) (by simp) (fun b off hA => by cases hA; omega)).mono ?_
    rintro e w3 ⟨q, rfl, hq, hr3, hg3⟩
    have hq : -1001 ≤ q ∧ q ≤ 1001 := by simp at hq; omega
    have R3 := (R2.out.alloc _).keptR hg3 (by omega)
    have S3 := (S2.out.alloc _).keptR hg3 (by omega)
    have c0 := R3.cell_of (i := 0) rfl
    have c1 := R3.cell_of (i := 1) rfl
    have d0 := S3.cell_of (i := 0) rfl
    have d1 := S3.cell_of (i := 1) rfl
    have y0 := R3.frozen 0
    have y1 := R3.frozen 1
    have y2 := S3.frozen 0
    have HR3 := Lib.hid hr3
    have G3 := Lib.hid (grown_trans (grown_alloc G2.out _) hg3)
    have hn2 : ¬ w.heap.size = w1.heap.size := by omega
    have hn3 : ¬ w1.heap.size = w.heap.size := by omega
    clear R3 S3 hr3 hg3
    go_wp2_with fail
    exact bodyPost_ret (v := .agg #[.int .i64 q, .int .i64 y]) (by simp [results, Try.results42, go_sem, c0, c1]) rfl ⟨(q, y), rfl, by unfold CrdP Crd; dsimp only; omega, ((HR3.out.far (by simp; omega) _).far (by simp; omega) _).far (by simp; omega) _, grown_far (grown_far (grown_far G3.out (by simp; omega) _) (by simp) _) (by simp) _⟩
  · have hb0 : (v == 0) = false := by simp [hv0]
    by_cases hv1 : v = 1
    · have hb1 : (v == 1) = true := by simp [hv1]
      clear hv0 hv1 a0 a1
      go_wp2_with fail
      refine (c_one g (N + 3) _ 4 [1000, 1001, -1001, -1000] _ (HR2.out.ext (ext_alloc _ _)) (by omega) (ints_new w2 _ _ rfl rfl) (by simp) (by simp) (fun b off hA => by cases hA; omega)).mono ?_
      rintro e w3 ⟨q, rfl, hq, hr3, hg3⟩
      have hq : -1001 ≤ q ∧ q ≤ 1001 := by simp at hq; omega
      have R3 := (R2.out.alloc _).keptR hg3 (by omega)
      have S3 := (S2.out.alloc _).keptR hg3 (by omega)
      have c0 := R3.cell_of (i := 0) rfl
      have c1 := R3.cell_of (i := 1) rfl
      have d0 := S3.cell_of (i := 0) rfl
      have d1 := S3.cell_of (i := 1) rfl
      have y0 := R3.frozen 0
      have y1 := R3.frozen 1
      have y2 := S3.frozen 1
      have HR3 := Lib.hid hr3
      have G3 := Lib.hid (grown_trans (grown_alloc G2.out _) hg3)
      have hn2 : ¬ w.heap.size = w1.heap.size := by omega
      have hn3 : ¬ w1.heap.size = w.heap.size := by omega
      clear R3 S3 hr3 hg3
      go_wp2_with fail
      exact bodyPost_ret (v := .agg #[.int .i64 x, .int .i64 q]) (by simp [results, Try.results42, go_sem, c0, c1]) rfl ⟨(x, q), rfl, by unfold CrdP Crd; dsimp only; omega, ((HR3.out.far (by simp; omega) _).far (by simp; omega) _).far (by simp; omega) _, grown_far (grown_far (grown_far G3.out (by simp; omega) _) (by simp) _) (by simp) _⟩
    · have hb1 : (v == 1) = false := by simp [hv1]
      clear hv0 hv1 a0 a1
      have R3 := R2.out
      have S3 := S2.out
      have c0 := R3.cell_of (i := 0) rfl
      have c1 := R3.cell_of (i := 1) rfl
      have d0 := S3.cell_of (i := 0) rfl
      have d1 := S3.cell_of (i := 1) rfl
      have y0 := R3.frozen 0
      have y1 := R3.frozen 1
      clear R3 S3
      go_wp2_with fail
      exact bodyPost_ret (v := .agg #[.int .i64 x, .int .i64 y]) (by simp [results, Try.results42, go_sem, c0, c1]) rfl ⟨(x, y), rfl, by unfold CrdP Crd; dsimp only; omega, ((HR2.out.mono (by omega)).far (by simp; omega) _).far (by simp; omega) _, grown_far (grown_far G2.out (by simp) _) (by simp) _⟩
/-- A list of points drawn, in a row of its own. -/
def DrewPts (w w' : World) (e : Ending) (g N : Nat) : Prop := ∃ A cap, ∃ ps : List Pt, e = .returned (.slice A ps.length cap) ∧ (∀ p ∈ ps, CrdP p) ∧ ps.length ≤ 100 ∧ Has w' w.heap.size 31 2 (.slice A ps.length cap) ps.length (ps.flatMap ptC) ∧ Rdr w' g N ∧ w.grownBy w' (some g)
set_option maxHeartbeats 2000000 in
theorem c_anyPoints (g N : Nat) (w : World) (h : Rdr w g N) (hN : N + 100 ≤ 1000000) :
    Calls Try.prog 22 #[.pointer (some ⟨g, 0, none⟩)] w fun e w' => DrewPts w w' e g (N + 100) := by
  have hlt := h.lt
  go_enter Try.func22, Try.ntmps22
  go_wp2_with fail
  have O0 := Lib.hid (own_of_row (B := w.heap.size) (sz := 2) (n := 0) (cs := []) (Row.new w 31 []) (Nat.le_refl _) rfl (by decide))
  have G0 : Hid (w.grownBy (w.alloc (.cells #[] 31)) (some g)) := Lib.hid (grown_ext (ext_alloc _ _))
  refine (c_one g N _ 9 [3, 4, 5, 2, 1, 0, 8, 40, 41] _ ((h.ext (ext_alloc _ _)).ext (ext_alloc _ _)) (by omega) (ints_new (w.alloc (.cells #[] 31)) _ _ (by simp) rfl) (by simp) (by simp) (fun b off hA => by cases hA; omega)).mono ?_
  rintro e w1 ⟨v, rfl, hv, hr1, hg1⟩
  have hv : 0 ≤ v ∧ v ≤ 41 := by simp at hv; omega
  obtain ⟨L, rfl⟩ : ∃ L : Nat, v = (L : Int) := ⟨v.toNat, by omega⟩
  have O1 := Lib.hid ((own_ext O0.out (ext_alloc _ _)).keptR ((h.ext (ext_alloc _ _)).ext (ext_alloc _ _)) PT_ne_RD hg1)
  have G1 := Lib.hid (grown_trans (grown_alloc G0.out _) hg1)
  have HR1 := Lib.hid hr1
  clear hr1 hg1 h
  go_wp2_with fail
  go_loopw [3, 4] (fun v n wr => ∃ (m : Nat) (A : Option Addr) (cap : Nat) (ps : List Pt), n = .int .i64 m ∧ v = .slice A ps.length cap ∧ ps.length + m = L ∧ (∀ p ∈ ps, CrdP p) ∧ Has wr w.heap.size 31 2 v ps.length (ps.flatMap ptC) ∧ Rdr wr g (N + 1 + 2 * ps.length) ∧ w.grownBy wr (some g)) (fun _ n _ => (intOf n).toNat)
  case atStart => exact ⟨L, _, 0, [], rfl, rfl, by simp, by simp, O1.out, by simpa using HR1.out, G1.out⟩
  case round =>
    obtain ⟨m, A, cap, ps, rfl, rfl, hm, hall, how, hrd, hgr⟩ := hrel
    have How := Lib.hid how
    have Hrd := Lib.hid hrd
    have Hgr := Lib.hid hgr
    have Hall := Lib.hid hall
    have hzr : w.heap.size ≤ wr.heap.size := hgr.size
    clear how hrd hgr hall
    by_cases h0 : 0 < m
    · go_wp2_with fail
      refine (c_somePoint g _ wr Hrd.out (by omega)).mono ?_
      rintro e w2 ⟨q, rfl, hq, hr2, hg2⟩
      have O2 := Lib.hid (How.out.keptR Hrd.out PT_ne_RD hg2)
      have R2 := Lib.hid hr2
      have G2 := Lib.hid (grown_trans Hgr.out hg2)
      have hz2 : w.heap.size ≤ w2.heap.size := G2.out.size
      clear hr2 hg2
      go_wp2_with (at_builtin; refine wpList_app ei_pt rfl (.tmp 13) (.tmp 16) rfl rfl (own_ext O2.out (ext_alloc _ _)) rfl (src_new w2 _ [_, _] (m := 1) rfl (by intro u hu; simp at hu; rcases hu with rfl | rfl <;> rfl)) (by omega) (by simp; omega) ?_; intro v3 w3 hown3 hg3 hat3)
      obtain ⟨A3, cap3, hv3⟩ := own_form hown3
      have R3 := Lib.hid ((R2.out.ext (ext_alloc _ _)).grown hg3 (fun k hk => by have := (O2.out.lt k hk).1; omega))
      have G3 := Lib.hid (grown_own (grown_alloc G2.out _) hg3 (fun k hk => (O2.out.lt k hk).1))
      have O3 : Hid (Has w3 w.heap.size 31 2 v3 (ps ++ [q]).length ((ps ++ [q]).flatMap ptC)) := Lib.hid (by
        rw [List.flatMap_append, List.length_append]; exact hown3)
      have hv4 : v3 = .slice A3 (ps ++ [q]).length cap3 := by rw [hv3]; simp
      clear hown3 hg3 hat3 hv3
      subst hv4
      go_wp2
      go_roundw
      case rel => exact ⟨m - 1, A3, cap3, ps ++ [q], by go_num, rfl, by simp; omega, by
        intro p hp
        rcases List.mem_append.1 hp with hp | hp
        · exact Hall.out p hp
        · simp at hp; subst hp; exact hq, O3.out, by rw [List.length_append]; exact R3.out.mono (by simp; omega), G3.out⟩
      case measure => simp [intOf]; omega
    · obtain rfl : m = 0 := by omega
      by_cases hpos : 0 < ps.length
      · have hne : ¬ ps = [] := by intro hh; subst hh; simp at hpos
        go_wp2_with fail
        refine (c_pick g _ 16 wr Hrd.out (by omega)).mono ?_
        rintro e w2 ⟨v, rfl, _, hr2, hg2⟩
        have O2 := Lib.hid (How.out.keptR Hrd.out PT_ne_RD hg2)
        have R2 := Lib.hid hr2
        have G2 := Lib.hid (grown_trans Hgr.out hg2)
        clear hr2 hg2
        by_cases hv0 : v = 0
        · have hb0 : (v == 0) = true := by simp [hv0]
          clear hv0
          go_wp2_with fail
          refine (c_pick g _ ps.length w2 R2.out (by omega)).mono ?_
          rintro e w3 ⟨v3, rfl, ⟨a0, a1⟩, hr3, hg3⟩
          have a1 := a1 (by omega)
          obtain ⟨k, rfl⟩ : ∃ k : Nat, v3 = (k : Int) := ⟨v3.toNat, by omega⟩
          have O3 := Lib.hid (O2.out.keptR R2.out PT_ne_RD hg3)
          have R3 := Lib.hid hr3
          have G3 := Lib.hid (grown_trans G2.out hg3)
          clear hr3 hg3
          go_wp2_with fail
          refine (c_anyPoint g _ w3 R3.out (by omega)).mono ?_
          rintro e w4 ⟨⟨x, y⟩, rfl, hq, hr4, hg4⟩
          have O4 := Lib.hid (O3.out.keptR R3.out PT_ne_RD hg4)
          have R4 := Lib.hid hr4
          have G4 := Lib.hid (grown_trans G3.out hg4)
          clear hr4 hg4
          obtain ⟨b, rfl, hb1, hb2⟩ := own_at O4.out hpos
          have hlen := O4.out.1
          have c0 : w4.cell? ⟨b, k * 2, none⟩ = some ((ps.flatMap ptC)[k * 2]'(by rw [hlen]; omega)) := by rw [O4.out.cellAt _ (by omega)]; exact List.getElem?_eq_getElem _
          have c1 : w4.cell? ⟨b, k * 2 + 1, none⟩ = some ((ps.flatMap ptC)[k * 2 + 1]'(by rw [hlen]; omega)) := by rw [O4.out.cellAt _ (by omega)]; exact List.getElem?_eq_getElem _
          generalize (ps.flatMap ptC)[k * 2]'(by rw [hlen]; omega) = o0 at c0
          generalize (ps.flatMap ptC)[k * 2 + 1]'(by rw [hlen]; omega) = o1 at c1
          have f0 := O4.out.frozenAt (k * 2)
          have f1 := O4.out.frozenAt (k * 2 + 1)
          have st := (O4.out.stored (k * 2) (.int .i64 x)).1.stored (k * 2 + 1) (.int .i64 y)
          have hset : ((ps.flatMap ptC).set (k * 2) (.int .i64 x)).set (k * 2 + 1) (.int .i64 y) = (ps.set k (x, y)).flatMap ptC := flat_set ptC_len ps (by omega) (x, y)
          rw [hset] at st
          have O5 := Lib.hid st.1
          have R5 := Lib.hid ((R4.out.far (p := ⟨b, k * 2, none⟩) (by simp; omega) (.int .i64 x)).far (p := ⟨b, k * 2 + 1, none⟩) (by simp; omega) (.int .i64 y))
          have G5 := Lib.hid (grown_far (grown_far G4.out (p := ⟨b, k * 2, none⟩) (by simp; omega) (.int .i64 x)) (p := ⟨b, k * 2 + 1, none⟩) (by simp; omega) (.int .i64 y))
          clear st hset hlen
          go_wp2_with fail
          go_ret
          exact ⟨some ⟨b, 0, none⟩, cap, ps.set k (x, y), by rw [List.length_set]; rfl, fun p hp => by
            rcases List.mem_or_eq_of_mem_set hp with hp | rfl
            · exact Hall.out p hp
            · exact hq, by simp; omega, by rw [List.length_set]; exact O5.out, R5.out.mono (by omega), G5.out⟩
        · have hb0 : (v == 0) = false := by simp [hv0]
          go_wp2_with fail
          go_ret
          exact ⟨A, cap, ps, rfl, Hall.out, by omega, O2.out, R2.out.mono (by omega), G2.out⟩
      · have h0' : ps.length = 0 := by omega
        have hnil := List.eq_nil_of_length_eq_zero h0'
        subst hnil
        go_wp2_with fail
        go_ret
        exact ⟨A, cap, [], rfl, Hall.out, by simp, How.out, Hrd.out.mono (by simp), Hgr.out⟩
end Go.Proofs.Ytalicpgnjpgloaa
