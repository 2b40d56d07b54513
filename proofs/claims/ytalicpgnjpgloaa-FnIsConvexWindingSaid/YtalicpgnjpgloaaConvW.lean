/-
  Convex polygons: the walks.
-/
import Derived.Test.YtalicpgnjpgloaaPts
import Derived.Test.YtalicpgnjpgloaaConvL
namespace Go.Proofs.Ytalicpgnjpgloaa
open Go Go.RowKit Reg
attribute [local go_sem] calmAt calmUpon
set_option maxHeartbeats 400000 in
theorem c_turnsOnce (A : Option Addr) (cap : Nat) (ps : List Pt) (w : World) (h : Pts w A ps) (hv : psB ps = true) :
    Calls Try.prog 27 #[.slice A ps.length cap] w fun e w' => e = .returned (.bool (decide ((foldT ps (2 * ps.length)).1 = 2))) ∧ Below w.heap.size w w' := by
  have hl := psB_len hv
  go_enter Try.func27, Try.ntmps27
  go_wp2
  go_loopw [3, 4, 5] (fun c l i wr => ∃ k : Nat, k ≤ 2 * ps.length ∧ i = .int .i64 k ∧ c = .int .i64 (foldT ps k).1 ∧ l = .int .i64 (foldT ps k).2 ∧ Below w.heap.size w wr) (fun _ _ i _ => 2 * ps.length - (intOf i).toNat)
  case atStart => exact ⟨0, Nat.zero_le _, rfl, rfl, rfl, Below.refl _ _⟩
  case round =>
    obtain ⟨k, hk, rfl, rfl, rfl, hbw⟩ := hrel
    have hbd := foldT_bd ps k
    have hst := Lib.hid (foldT_succ ps k)
    by_cases hlt : k < 2 * ps.length
    · obtain ⟨s, hs⟩ : ∃ s, s = foldT ps k := ⟨_, rfl⟩
      have hst' : Hid (foldT ps (k + 1) = stepT ps s k) := by rw [hs]; exact hst
      rw [← hs] at hbd ⊢
      obtain ⟨b, off, rfl, _hb, hc⟩ := (h.ext ptR_stab hbw).pts (by omega)
      obtain ⟨m1, hm1⟩ : ∃ m, m = (k + 1) % ps.length := ⟨_, rfl⟩
      obtain ⟨m0, hm0⟩ : ∃ m, m = k % ps.length := ⟨_, rfl⟩
      have l1 : m1 < ps.length := by rw [hm1]; exact Nat.mod_lt _ (by omega)
      have l0 : m0 < ps.length := by rw [hm0]; exact Nat.mod_lt _ (by omega)
      obtain ⟨y1, hy1⟩ : ∃ y, y = ps[m1].2 := ⟨_, rfl⟩
      obtain ⟨y0, hy0⟩ : ∃ y, y = ps[m0].2 := ⟨_, rfl⟩
      have c1 := (hc m1 l1).2
      have c0 := (hc m0 l0).2
      have b1 := (psB_at hv l1).2
      have b0 := (psB_at hv l0).2
      rw [← hy1] at c1 b1
      rw [← hy0] at c0 b0
      have hd := Lib.hid (show foldT ps (k + 1) = (let d := y1 - y0; if d = 0 then s else (if s.2 ≠ 0 ∧ ¬ (0 < d ↔ 0 < s.2) ∧ ps.length ≤ k then s.1 + 1 else s.1, d)) by
        rw [hst'.out, stepT, cyc_at hm1 l1, cyc_at hm0 l0, ← hy1, ← hy0])
      have hne : ¬ ps = [] := by intro h; rw [h] at hlt; simp at hlt
      have f2 : Int.tmod ((k : Int) + 1) (ps.length : Int) = (m1 : Int) := by rw [hm1]; exact tmod_nat1 k ps.length 1
      have f3 : Int.tmod (k : Int) (ps.length : Int) = (m0 : Int) := by rw [hm0]; exact tmod_nat k ps.length
      clear hc hs hst hst' hy1 hy0 hm1 hm0 h hv
      go_wp2_with fail
      have f1 : IntKind.i64.wrap ((k : Int) + 1) = (k : Int) + 1 := IntWalk.i64_in _ (by omega)
      have f4 : IntKind.i64.wrap (y1 - y0) = y1 - y0 := IntWalk.i64_in _ (by omega)
      have f5 : (m1 : Int) < (ps.length : Int) := by omega
      have f6 : (m0 : Int) < (ps.length : Int) := by omega
      refine wp_region_calm [0,1,2,3,4,5,6,7,8,9,10,11,12,13,14,15,16,17,18] [] (by kernel_rfl) (by kernel_rfl) ?_
      repeat ((refine calm_yes rfl rfl (fun w' hC => (by have c1 := hC.cell c1; have c0 := hC.cell c0; go_simp; rfl)) (fun K hK => ?_); go_simp; refine hK _ ?_; clear hK K))
      refine calm_done (fun w1 hb1 => ?_)
      clear f1 f2 f3 f4 f5 f6 c1 c0 hne l1 l0
      go_wp2_with fail
      all_goals
        go_roundw
        case rel =>
          refine ⟨k + 1, by omega, by go_num, ?_, ?_, below_ext hbw hb1⟩
          all_goals
            rw [hd.out]
            congr 1
            simp_all
            try omega
        case measure => simp [intOf]; omega
    · have hk' : k = 2 * ps.length := by omega
      obtain ⟨s, hs⟩ : ∃ s, s = foldT ps k := ⟨_, rfl⟩
      have hs' := Lib.hid (show (foldT ps (2 * ps.length)) = s by rw [hs, hk'])
      rw [← hs] at hbd ⊢
      clear h hs hst hk'
      go_wp2
      go_ret
      exact ⟨ret_b (by rw [hs'.out]; simp), hbw⟩
set_option maxHeartbeats 1000000 in
theorem c_specIsConvex (A : Option Addr) (cap : Nat) (ps : List Pt) (w : World) (h : Pts w A ps) (hl : ps.length ≤ 4611686018427387904) :
    Calls Try.prog 7 #[.slice A ps.length cap] w fun e w' => e = .returned (.bool (specConvex ps)) ∧ Below w.heap.size w w' := by
  by_cases hv : psB ps = true
  · by_cases h3 : 3 ≤ ps.length
    · go_enter Try.func7, Try.ntmps7
      go_wp2_with (go_at_call 26; refine (c_validPoints A cap ps _ h hl).mono ?_; rw [hv]; rintro e w0 ⟨rfl, hb0⟩)
      go_loopw [4, 5] (fun s i wr => ∃ k : Nat, k ≤ ps.length ∧ i = .int .i64 k ∧ s = .int .i64 (sgnS ps k) ∧ goodS ps k = true ∧ Below w.heap.size w wr) (fun _ i _ => ps.length - (intOf i).toNat)
      case atStart => exact ⟨0, Nat.zero_le _, rfl, rfl, rfl, hb0⟩
      case round =>
        obtain ⟨k, hk, rfl, rfl, hg, hbw⟩ := hrel
        have Hg := Lib.hid hg
        have Hl := psB_len hv
        clear hg hb0
        by_cases hlt : k < ps.length
        · obtain ⟨b, off, rfl, _hb, hc⟩ := (h.ext ptR_stab hbw).pts (by omega)
          obtain ⟨m1, hm1⟩ : ∃ m, m = (k + 1) % ps.length := ⟨_, rfl⟩
          obtain ⟨m2, hm2⟩ : ∃ m, m = (k + 2) % ps.length := ⟨_, rfl⟩
          have l1 : m1 < ps.length := by rw [hm1]; exact Nat.mod_lt _ (by omega)
          have l2 : m2 < ps.length := by rw [hm2]; exact Nat.mod_lt _ (by omega)
          have hcr : crs ps k = crossL ps[k] ps[m1] ps[m2] := by
            unfold crs
            rw [cyc_at (m := k) (by rw [Nat.mod_eq_of_lt hlt]) hlt, cyc_at hm1 l1, cyc_at hm2 l2]
          obtain ⟨cx0, cy0⟩ := hc k hlt
          obtain ⟨cx1, cy1⟩ := hc m1 l1
          obtain ⟨cx2, cy2⟩ := hc m2 l2
          obtain ⟨bx0, by0⟩ := psB_at hv hlt
          obtain ⟨bx1, by1⟩ := psB_at hv l1
          obtain ⟨bx2, by2⟩ := psB_at hv l2
          unfold crossL at hcr
          generalize ps[k].1 = x0 at *
          generalize ps[k].2 = y0 at *
          generalize ps[m1].1 = x1 at *
          generalize ps[m1].2 = y1 at *
          generalize ps[m2].1 = x2 at *
          generalize ps[m2].2 = y2 at *
          have p1 := mul_bd (a := x1 - x0) (b := y2 - y1) (A := 2000) (B := 2000) (by omega) (by omega) (by omega) (by omega)
          have p2 := mul_bd (a := y1 - y0) (b := x2 - x1) (A := 2000) (B := 2000) (by omega) (by omega) (by omega) (by omega)
          have hs1 := Lib.hid (sgnS_succ ps k)
          obtain ⟨c, hcc⟩ : ∃ c, c = crs ps k := ⟨_, rfl⟩
          obtain ⟨s, hss⟩ : ∃ s, s = sgnS ps k := ⟨_, rfl⟩
          have hst := Lib.hid (goodS_step (ps := ps) (k := k) Hg.out)
          have hsp := Lib.hid (goodS_stop (ps := ps) (k := k) (n := ps.length) Hg.out hlt)
          rw [← hcc, ← hss] at hst hsp
          rw [← hcc] at hs1 hcr
          rw [← hss]
          have f2 : ((k : Int) + 1) % (ps.length : Int) = (m1 : Int) := by rw [hm1]; simp
          have f3 : ((k : Int) + 2) % (ps.length : Int) = (m2 : Int) := by rw [hm2]; simp
          have hne : ¬ ps = [] := by intro h; rw [h] at hlt; simp at hlt
          have hcr' := hcr.symm
          clear hcr hcc hss hm1 hm2 hc h Hg
          have hz := hbw.size
          have hfin : (c = 0 ∨ s ≠ 0 ∧ ¬(0 < c ↔ 0 < s)) → specConvex ps = false := fun hh => by simp [specConvex, hsp.out hh]
          have Hfin := Lib.hid hfin
          clear hfin
          by_cases hc0 : c = 0
          · have Hc0 := Lib.hid hc0
            have hb1 : (c == 0) = true := by simpa using hc0
            clear hc0
            go_wp2
            go_ret
            exact ⟨ret_bb (Hfin.out (.inl Hc0.out)).symm, (by repeat (first | exact Below.refl _ _ | assumption | refine Below.drew ?_ | refine Below.alloc ?_ (by first | exact Nat.le_refl _ | omega | (simp; done) | (simp; omega)) _ | refine Below.setCell ?_ (by first | exact Nat.le_refl _ | omega | (simp; done) | (simp; omega)) _))⟩
          · have hb1 : (c == 0) = false := by simpa using hc0
            by_cases hs0 : s = 0
            · have Hs0 := Lib.hid hs0
              have hb2 : (s != 0) = false := by simpa using hs0
              clear hs0
              go_wp2
              go_roundw
              case rel => exact ⟨k + 1, by omega, by go_num, by rw [hs1.out], hst.out hc0 (fun h => absurd Hs0.out h), (by repeat (first | exact Below.refl _ _ | assumption | refine Below.drew ?_ | refine Below.alloc ?_ (by first | exact Nat.le_refl _ | omega | (simp; done) | (simp; omega)) _ | refine Below.setCell ?_ (by first | exact Nat.le_refl _ | omega | (simp; done) | (simp; omega)) _))⟩
              case measure => simp [intOf]; omega
            · have hb2 : (s != 0) = true := by simpa using hs0
              by_cases q1 : 0 < c
              · by_cases q2 : 0 < s
                · go_wp2
                  go_roundw
                  case rel => exact ⟨k + 1, by omega, by go_num, by rw [hs1.out], hst.out hc0 (fun _ => (by omega)), (by repeat (first | exact Below.refl _ _ | assumption | refine Below.drew ?_ | refine Below.alloc ?_ (by first | exact Nat.le_refl _ | omega | (simp; done) | (simp; omega)) _ | refine Below.setCell ?_ (by first | exact Nat.le_refl _ | omega | (simp; done) | (simp; omega)) _))⟩
                  case measure => simp [intOf]; omega
                · go_wp2
                  go_ret
                  exact ⟨ret_bb (Hfin.out (.inr ⟨hs0, fun hh => (by omega)⟩)).symm, (by repeat (first | exact Below.refl _ _ | assumption | refine Below.drew ?_ | refine Below.alloc ?_ (by first | exact Nat.le_refl _ | omega | (simp; done) | (simp; omega)) _ | refine Below.setCell ?_ (by first | exact Nat.le_refl _ | omega | (simp; done) | (simp; omega)) _))⟩
              · by_cases q2 : 0 < s
                · go_wp2
                  go_ret
                  exact ⟨ret_bb (Hfin.out (.inr ⟨hs0, fun hh => (by omega)⟩)).symm, (by repeat (first | exact Below.refl _ _ | assumption | refine Below.drew ?_ | refine Below.alloc ?_ (by first | exact Nat.le_refl _ | omega | (simp; done) | (simp; omega)) _ | refine Below.setCell ?_ (by first | exact Nat.le_refl _ | omega | (simp; done) | (simp; omega)) _))⟩
                · go_wp2
                  go_roundw
                  case rel => exact ⟨k + 1, by omega, by go_num, by rw [hs1.out], hst.out hc0 (fun _ => (by omega)), (by repeat (first | exact Below.refl _ _ | assumption | refine Below.drew ?_ | refine Below.alloc ?_ (by first | exact Nat.le_refl _ | omega | (simp; done) | (simp; omega)) _ | refine Below.setCell ?_ (by first | exact Nat.le_refl _ | omega | (simp; done) | (simp; omega)) _))⟩
                  case measure => simp [intOf]; omega
        · have hk' : k = ps.length := by omega
          have Hg' : Hid (goodS ps ps.length = true) := by rw [← hk']; exact Hg
          have h' := h.ext ptR_stab hbw
          clear h Hg hk'
          go_wp2_with (go_at_call 27; refine (c_turnsOnce A cap ps _ h' hv).mono ?_; rintro e w1 ⟨rfl, hb1⟩)
          go_ret
          exact ⟨ret_bb (by simp [specConvex, Hg'.out, hv, h3]), below_ext hbw hb1⟩
    · go_enter Try.func7, Try.ntmps7
      go_wp2_with (go_at_call 26; refine (c_validPoints A cap ps _ h hl).mono ?_; rw [hv]; rintro e w0 ⟨rfl, hb0⟩)
      go_ret
      exact ⟨ret_bb (by simp [specConvex, h3]), hb0⟩
  · simp only [Bool.not_eq_true] at hv
    go_enter Try.func7, Try.ntmps7
    go_wp2_with (go_at_call 26; refine (c_validPoints A cap ps _ h hl).mono ?_; rw [hv]; rintro e w0 ⟨rfl, hb0⟩)
    go_ret
    exact ⟨ret_bb (by simp [specConvex, hv]), hb0⟩
end Go.Proofs.Ytalicpgnjpgloaa
