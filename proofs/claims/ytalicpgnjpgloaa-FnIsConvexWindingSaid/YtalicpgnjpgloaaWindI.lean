/-
  The program's windings and areas: the walks.
-/
import Derived.Test.YtalicpgnjpgloaaEdges
namespace Go.Proofs.Ytalicpgnjpgloaa
open Go Go.RowKit Reg
attribute [local go_sem] calmAt calmUpon
def sumK (f : Pt → Pt → Int) (es : List Ed) (k : Nat) : Int := sumI ((es.take k).map fun e => f e.1 e.2)
theorem sumK_zero (f : Pt → Pt → Int) (es : List Ed) : sumK f es 0 = 0 := rfl
theorem sumK_succ (f : Pt → Pt → Int) {es : List Ed} {k : Nat} (h : k < es.length) : sumK f es (k + 1) = sumK f es k + f es[k].1 es[k].2 := by
  unfold sumK; rw [List.take_succ_eq_append_getElem h, List.map_append, sumI_append]; simp [sumI]
theorem sumK_all (f : Pt → Pt → Int) {es : List Ed} {k : Nat} (h : k = es.length) : sumK f es k = sumI (es.map fun e => f e.1 e.2) := by unfold sumK; rw [h, List.take_length]
theorem sumK_bd {f : Pt → Pt → Int} {es : List Ed} {B : Int} (h : ∀ e ∈ es, -B ≤ f e.1 e.2 ∧ f e.1 e.2 ≤ B) (hB : 0 ≤ B) {k N : Nat} (hk : k ≤ N) : -(N * B) ≤ sumK f es k ∧ sumK f es k ≤ N * B := by
  have := sumI_bd (l := (es.take k).map fun e => f e.1 e.2) (B := B) (by
    intro v hv
    obtain ⟨e, he, rfl⟩ := List.mem_map.1 hv
    exact h e (List.mem_of_mem_take he))
  rw [List.length_map] at this
  have h1 : (es.take k).length ≤ N := by rw [List.length_take]; omega
  have h2 : (((es.take k).length : Nat) : Int) * B ≤ (N : Int) * B := Int.mul_le_mul_of_nonneg_right (by omega) hB
  unfold sumK; omega
set_option maxRecDepth 100000 in
set_option maxHeartbeats 4000000 in
theorem c_iwinding (A : Option Addr) (cap : Nat) (rs : List Rg) (x y : Int) (w : World) (h : Rgs w A rs) (hv : rgsB rs = true) (hx : -2000 ≤ x ∧ x ≤ 2000) (hy : -2000 ≤ y ∧ y ≤ 2000) :
    Calls Try.prog 31 #[.slice A rs.length cap, .int .i64 x, .int .i64 y] w fun e w' => e = .returned (.int .i64 (windL rs x y)) ∧ Below w.heap.size w w' := by
  have hr := rgsB_iff.1 hv
  have hpt : ∀ e ∈ edgesS rs, Crd2 e.1 ∧ Crd2 e.2 := fun e he => edgesS_pts hv he
  have hel : (edgesS rs).length ≤ 200 := by rw [edgesS_len]; exact hr.2.2
  have Hw : Hid (windL rs x y = sumI ((edgesS rs).map fun e => stepL x y e.1 e.2)) := Lib.hid (sumS_edges _ _)
  have K := Lib.hid (c_edges A cap rs w h (by omega) (by omega))
  obtain ⟨S, hS⟩ : ∃ S, windL rs x y = S := ⟨_, rfl⟩
  rw [hS]
  rw [hS] at Hw
  clear h hv hr hS
  generalize edgesS rs = es at *
  have Hpt := Lib.hid hpt
  clear hpt
  go_enter Try.func31, Try.ntmps31
  go_wp2_with fail
  refine K.out.mono ?_
  rintro e w1 ⟨A1, cap1, rfl, hes, hb⟩
  have E := Lib.hid hb
  have P := Lib.hid hes
  clear hes hb K
  go_wp2_with fail
  go_loopw [7, 14] (fun n i wr => ∃ (k : Nat), k ≤ es.length ∧ i = .int .i64 k ∧ n = .int .i64 (sumK (stepL x y) es k) ∧ Ext w1 wr) (fun _ i _ => es.length - (intOf i).toNat)
  case atStart => exact ⟨0, Nat.zero_le _, rfl, rfl, Below.refl _ _⟩
  case round =>
    obtain ⟨k, hk, rfl, rfl, hbw⟩ := hrel
    have X := Lib.hid hbw
    clear hbw
    have hbd := sumK_bd (f := stepL x y) (es := es) (B := 1) (fun e _ => stepL_bd x y e.1 e.2) (by omega) (k := k) (N := 200) (by omega)
    by_cases hlt : k < es.length
    · obtain ⟨b, off, hA, _, hc⟩ := (P.out.ext edR_stab X.out).eds (by omega)
      subst hA
      obtain ⟨c0, c1, c2, c3⟩ := hc k hlt
      have Hs := Lib.hid (sumK_succ (stepL x y) hlt)
      obtain ⟨q1, q2⟩ := Hpt.out es[k] (List.getElem_mem hlt)
      clear hc
      generalize es[k] = e at *
      have Hi := Lib.hid (stepL_impl x y e.1 e.2)
      have K1 := Lib.hid (fun W => c_step e y W)
      have K2 := Lib.hid (fun W => c_left e x y W q1 q2 hx hy)
      have hsb : -1 ≤ stepS y e.1 e.2 ∧ stepS y e.1 e.2 ≤ 1 := by unfold stepS; split <;> (try split) <;> omega
      clear q1 q2
      obtain ⟨d, hd⟩ : ∃ d, leftB e.1 e.2 x y = d := ⟨_, rfl⟩
      rw [hd] at Hi K2
      generalize stepS y e.1 e.2 = s at *
      generalize sumK (stepL x y) es k = n at *
      clear hd
      go_wp2_with fail
      first | refine gen_calls ?_ | refine gen_code ?_ | refine gen_list ?_
      intro w2 hW
      obtain ⟨hb, hR⟩ := new1 hW
      clear hW
      replace X := Lib.hid (Ext.trans X.out hb)
      clear hb
      have R := Lib.hid hR
      have lR := R.out.lt
      clear hR
      clear c0 c1 c2 c3
      have r0 := R.out.cell_of (i := 0) rfl
      have r1 := R.out.cell_of (i := 1) rfl
      have r2 := R.out.cell_of (i := 2) rfl
      have r3 := R.out.cell_of (i := 3) rfl
      go_wp2_with fail
      clear r0 r1 r2 r3
      refine (K1.out _).mono ?_
      rintro e w3 ⟨rfl, hb⟩
      replace X := Lib.hid (Ext.trans X.out hb)
      replace R := Lib.hid (R.out.ext hb)
      have lR := R.out.lt
      clear hb
      have r0 := R.out.cell_of (i := 0) rfl
      have r1 := R.out.cell_of (i := 1) rfl
      have r2 := R.out.cell_of (i := 2) rfl
      have r3 := R.out.cell_of (i := 3) rfl
      by_cases hs : s = 0
      · have hb0 : (s != 0) = false := by simp [hs]
        have Hf : Hid (stepL x y e.1 e.2 = 0) := Lib.hid (by rw [Hi.out]; simp [hs])
        clear hs
        go_wp2
        go_roundw
        case rel => exact ⟨k + 1, by omega, by go_num, by rw [Hs.out, Hf.out]; simp, X.out⟩
        case measure => simp [intOf]; omega
      · have hb0 : (s != 0) = true := by simp [hs]
        have Hf : Hid (stepL x y e.1 e.2 = if d = true then s else 0) := Lib.hid (by rw [Hi.out]; simp [hs])
        clear hs
        go_wp2_with fail
        clear r0 r1 r2 r3
        refine (K2.out _).mono ?_
        rintro e w4 ⟨rfl, hb⟩
        replace X := Lib.hid (Ext.trans X.out hb)
        replace R := Lib.hid (R.out.ext hb)
        have lR := R.out.lt
        clear hb
        have r0 := R.out.cell_of (i := 0) rfl
        have r1 := R.out.cell_of (i := 1) rfl
        have r2 := R.out.cell_of (i := 2) rfl
        have r3 := R.out.cell_of (i := 3) rfl
        cases d
        · have Hf2 : Hid (stepL x y e.1 e.2 = 0) := Lib.hid (by rw [Hf.out]; rfl)
          go_wp2
          go_roundw
          case rel => exact ⟨k + 1, by omega, by go_num, by rw [Hs.out, Hf2.out]; simp, X.out⟩
          case measure => simp [intOf]; omega
        · have Hf2 : Hid (stepL x y e.1 e.2 = s) := Lib.hid (by rw [Hf.out]; rfl)
          go_wp2
          go_roundw
          case rel => exact ⟨k + 1, by omega, by go_num, by rw [Hs.out, Hf2.out], X.out⟩
          case measure => simp [intOf]; omega
    · have hk' : k = es.length := by omega
      have Hf : Hid (sumK (stepL x y) es k = S) := Lib.hid (by rw [Hw.out, sumK_all _ hk'])
      clear hk'
      go_wp2
      go_ret
      exact ⟨ret_i (by rw [Hf.out]), Ext.trans E.out X.out⟩
theorem areaE_bd {a b : Pt} (h1 : Crd2 a) (h2 : Crd2 b) : -8000000 ≤ areaE a b ∧ areaE a b ≤ 8000000 := by
  unfold Crd2 at h1 h2
  have p1 := mul_bd (a := a.1) (b := b.2) (A := 2000) (B := 2000) (by omega) (by omega) (by omega) (by omega)
  have p2 := mul_bd (a := b.1) (b := a.2) (A := 2000) (B := 2000) (by omega) (by omega) (by omega) (by omega)
  unfold areaE; omega
set_option maxRecDepth 100000 in
set_option maxHeartbeats 4000000 in
theorem c_iAreaOf (A : Option Addr) (cap : Nat) (rs : List Rg) (w : World) (h : Rgs w A rs) (hl : rs.length ≤ 1000000000) (hs : ∀ r ∈ rs, r.length ≤ 1000000000) :
    Calls Try.prog 8 #[.slice A rs.length cap] w fun e w' => e = .returned (.int .i64 (areaR rs)) ∧ Below w.heap.size w w' := by
  have K0 := Lib.hid (c_iValidRings A cap rs w h hl hs)
  have H := Lib.hid h
  clear h hs
  obtain ⟨S, hS⟩ : ∃ S, areaR rs = S := ⟨_, rfl⟩
  rw [hS]
  have HS := Lib.hid hS
  obtain ⟨d, hd⟩ : ∃ d, rgsB rs = d := ⟨_, rfl⟩
  rw [hd] at K0
  have Hd := Lib.hid hd
  have E := Lib.hid (Below.refl w.heap.size w)
  clear hS hd
  go_enter Try.func8, Try.ntmps8
  go_wp2_with fail
  refine (K0.out).mono ?_
  rintro e w1 ⟨rfl, hb⟩
  replace E := Lib.hid (Ext.trans E.out hb)
  replace H := Lib.hid (H.out.ext rgR_stab hb)
  clear hb
  cases d
  · have Hf : Hid (S = 0) := Lib.hid (by rw [← HS.out]; unfold areaR; rw [Hd.out]; rfl)
    go_wp2
    go_ret
    exact ⟨ret_i (by rw [Hf.out]), E.out⟩
  · have hr := rgsB_iff.1 Hd.out
    have hpt : ∀ e ∈ edgesS rs, Crd2 e.1 ∧ Crd2 e.2 := fun e he => edgesS_pts Hd.out he
    have hel : (edgesS rs).length ≤ 200 := by rw [edgesS_len]; exact hr.2.2
    have Hw : Hid (S = sumI ((edgesS rs).map fun e => areaE e.1 e.2)) := Lib.hid (by rw [← HS.out]; unfold areaR; rw [Hd.out]; exact sumS_edges _ _)
    have K := Lib.hid (c_edges A cap rs w1 H.out (by omega) (by omega))
    clear hr
    generalize edgesS rs = es at *
    have Hpt := Lib.hid hpt
    clear hpt
    go_wp2_with fail
    refine K.out.mono ?_
    rintro e w2 ⟨A1, cap1, rfl, hes, hb⟩
    replace E := Lib.hid (Ext.trans E.out hb)
    have P := Lib.hid hes
    clear hes hb K
    go_wp2_with fail
    go_loopw [3, 12] (fun n i wr => ∃ (k : Nat), k ≤ es.length ∧ i = .int .i64 k ∧ n = .int .i64 (sumK areaE es k) ∧ Ext w2 wr) (fun _ i _ => es.length - (intOf i).toNat)
    case atStart => exact ⟨0, Nat.zero_le _, rfl, rfl, Below.refl _ _⟩
    case round =>
      obtain ⟨k, hk, rfl, rfl, hbw⟩ := hrel
      have X := Lib.hid hbw
      clear hbw
      have hbd := sumK_bd (f := areaE) (es := es) (B := 8000000) (fun e he => areaE_bd (Hpt.out e he).1 (Hpt.out e he).2) (by omega) (k := k) (N := 200) (by omega)
      by_cases hlt : k < es.length
      · obtain ⟨b, off, hA, _, hc⟩ := (P.out.ext edR_stab X.out).eds (by omega)
        subst hA
        obtain ⟨c0, c1, c2, c3⟩ := hc k hlt
        have Hs := Lib.hid (sumK_succ areaE hlt)
        obtain ⟨⟨⟨q1, q2⟩, q3, q4⟩, ⟨q5, q6⟩, q7, q8⟩ := Hpt.out es[k] (List.getElem_mem hlt)
        clear hc
        generalize es[k] = e at *
        obtain ⟨⟨ax, ay⟩, bx, bz⟩ := e
        dsimp only at q1 q2 q3 q4 q5 q6 q7 q8 c0 c1 c2 c3
        have p1 := mul_bd (a := ax) (b := bz) (A := 2000) (B := 2000) (by omega) (by omega) (by omega) (by omega)
        have p2 := mul_bd (a := ay) (b := bx) (A := 2000) (B := 2000) (by omega) (by omega) (by omega) (by omega)
        have Hv : Hid (areaE (ax, ay) (bx, bz) = ax * bz - ay * bx) := Lib.hid (by unfold areaE; dsimp only; rw [Int.mul_comm bx]) 
        generalize sumK areaE es k = n at *
        go_wp2
        go_roundw
        case rel => exact ⟨k + 1, by omega, by go_num, by rw [Hs.out, Hv.out], Ext.trans X.out (ext_alloc _ _)⟩
        case measure => simp [intOf]; omega
      · have hk' : k = es.length := by omega
        have Hf : Hid (sumK areaE es k = S) := Lib.hid (by rw [Hw.out, sumK_all _ hk'])
        clear hk'
        go_wp2
        go_ret
        exact ⟨ret_i (by rw [Hf.out]), Ext.trans E.out X.out⟩
end Go.Proofs.Ytalicpgnjpgloaa
