/-
  Structs of two numbers compared, copied, marked, looked for: the walks of the laws' helpers (written by mkpair.py out of those of points).
-/
import Derived.Test.YtagmnbphbakikaaGreatMg2
import Derived.Test.YtagmnbphbakikaaGreatMg3
namespace Go.Proofs.YtagmnbphbakikaaGreat
open Go Go.RowKit Reg
attribute [local go_sem] calmAt calmUpon
theorem ei_turn : EI Tryz.prog 62 101 (.agg #[.int .i64 0, .int .i64 0]) [.int .i64 0, .int .i64 0] 16 := ei_mk Tryz.underlying62 (by kernel_rfl) rfl (by decide) (by decide)
set_option maxHeartbeats 400000 in
theorem c_eqTurn (p q : Pt) (w : World) : Calls Tryz.prog 61 #[.agg #[.int .i64 p.1, .int .i64 p.2], .agg #[.int .i64 q.1, .int .i64 q.2]] w fun e w' => e = .returned (.bool (decide (p = q))) ∧ Below w.heap.size w w' := by
  obtain ⟨p1, p2⟩ := p
  obtain ⟨q1, q2⟩ := q
  go_enter Tryz.func61, Tryz.ntmps61
  go_wp2
  all_goals (go_ret; exact ⟨ret_b (by simp_all), (by repeat (first | exact Below.refl _ _ | assumption | refine Below.drew ?_ | refine Below.alloc ?_ (by first | exact Nat.le_refl _ | omega | (simp; done) | (simp; omega)) _ | refine Below.setCell ?_ (by first | exact Nat.le_refl _ | omega | (simp; done) | (simp; omega)) _))⟩)
set_option maxHeartbeats 400000 in
theorem c_eqTurnS (A A' : Option Addr) (cap cap' : Nat) (ps qs : List Pt) (w : World) (h : Pts w A ps) (h' : Pts w A' qs) (hl : ps.length ≤ 4611686018427387904) (hl' : qs.length ≤ 4611686018427387904) :
    Calls Tryz.prog 22 #[.slice A ps.length cap, .slice A' qs.length cap'] w fun e w' => e = .returned (.bool (decide (ps = qs))) ∧ Below w.heap.size w w' := by
  by_cases hlen : ps.length = qs.length
  · go_enter Tryz.func22, Tryz.ntmps22
    have hne : (((ps.length : Nat) : Int) != ((qs.length : Nat) : Int)) = false := by simp [hlen]
    have Hlen := Lib.hid hlen
    clear hlen
    go_wp2
    go_loopw [5] (fun i wr => ∃ k : Nat, k ≤ ps.length ∧ i = .int .i64 k ∧ ps.take k = qs.take k ∧ Below w.heap.size w wr) (fun i _ => ps.length - (intOf i).toNat)
    case atStart => exact ⟨0, Nat.zero_le _, rfl, by simp, Below.refl _ _⟩
    case round =>
      obtain ⟨k, hk, rfl, hal, hbw⟩ := hrel
      have hal' := Lib.hid hal
      clear hal
      by_cases hlt : k < ps.length
      · have hlt' : k < qs.length := by have := Hlen.out; omega
        obtain ⟨b, off, rfl, _hb, hc⟩ := (h.ext ptR_stab hbw).pts (by omega)
        obtain ⟨b', off', rfl, _hb', hc'⟩ := (h'.ext ptR_stab hbw).pts (by omega)
        obtain ⟨cx, cy⟩ := hc k hlt
        obtain ⟨cx', cy'⟩ := hc' k hlt'
        have hk1 : ps[k] = qs[k] → ps.take (k + 1) = qs.take (k + 1) := take_eq_succ hal'.out hlt hlt'
        have hk2 : ps[k] ≠ qs[k] → ps ≠ qs := ne_of_at hlt hlt'
        have Hk1 := Lib.hid hk1
        have Hk2 := Lib.hid hk2
        clear h hc h' hc' hk1 hk2
        generalize ps[k] = p at *
        generalize qs[k] = q at *
        go_wp2_with fail
        refine wp_region_calm [0,1,2,3,4,5,6,7,8,9] [] (by kernel_rfl) (by kernel_rfl) ?_
        iterate 8 ((refine calm_yes rfl rfl (fun w' hC => (by have cx := hC.cell cx; have cy := hC.cell cy;  have cx' := hC.cell cx'; have cy' := hC.cell cy'; go_simp; rfl)) (fun K hK => ?_); go_simp; refine hK _ ?_; clear hK K))
        (apply calm_call rfl rfl rfl Tryz.func61 (by kernel_rfl) rfl (by go_simp; rfl); exact (fun w' hC => c_eqTurn p q w'); intro K hK; go_simp; refine hK _ ?_; clear hK K)
        (refine calm_yes rfl rfl (fun w' hC => (by go_simp; rfl)) (fun K hK => ?_); go_simp; refine hK _ ?_; clear hK K)
        refine calm_done (fun w1 hb1 => ?_)
        obtain ⟨d, hd⟩ : ∃ d, d = decide (p = q) := ⟨_, rfl⟩
        rw [← hd]
        have Hd := Lib.hid hd
        clear hd
        cases d
        · have hpq : ps ≠ qs := Hk2.out (by have := Hd.out; simpa using this.symm)
          go_wp2
          go_ret
          exact ⟨ret_b (by simp [hpq]), below_ext hbw hb1⟩
        · go_wp2
          go_roundw
          case rel => exact ⟨k + 1, by omega, by go_num, Hk1.out (by have := Hd.out; simpa using this.symm), below_ext hbw hb1⟩
          case measure => simp [intOf]; omega
      · have hk' : ps = qs := eq_of_take hal'.out (by omega) (by have := Hlen.out; omega)
        have Hk' := Lib.hid hk'
        clear h h' hk'
        go_wp2
        go_ret
        exact ⟨ret_b (by simp [Hk'.out]), hbw⟩
  · have hne : (((ps.length : Nat) : Int) != ((qs.length : Nat) : Int)) = true := by simp; omega
    have hpq : ps ≠ qs := fun h => hlen (by rw [h])
    go_enter Tryz.func22, Tryz.ntmps22
    go_wp2
    go_ret
    exact ⟨ret_b (by simp [hpq]), Below.refl _ _⟩
set_option maxHeartbeats 400000 in
theorem c_szTurnS (A : Option Addr) (n cap : Nat) (left : Int) (w : World) (h0 : 0 ≤ left) (h1 : left ≤ 4611686018427387904) (hn : n ≤ 9223372036854775807) :
    Calls Tryz.prog 18 #[.slice A n cap, .int .i64 left] w fun e w' => e = .returned (.int .i64 (if left - n < 0 then -1 else left - n)) ∧ w = w' := by
  by_cases h : left - n < 0
  all_goals
    go_enter Tryz.func18, Tryz.ntmps18
    go_wp2
    go_ret
    exact ⟨ret_i (by simp), rfl⟩
set_option maxHeartbeats 400000 in
theorem c_toTurn (p : Pt) (w : World) : Calls Tryz.prog 55 #[.agg #[.int .i64 p.1, .int .i64 p.2]] w fun e w' => e = .returned (.agg #[.int .i64 p.1, .int .i64 p.2]) ∧ Below w.heap.size w w' := by
  go_enter Tryz.func55, Tryz.ntmps55
  go_wp2
  exact bodyPost_ret (v := .agg #[.int .i64 p.1, .int .i64 p.2]) (by simp [results, Tryz.results55, go_sem]) rfl ⟨rfl, (by repeat (first | exact Below.refl _ _ | assumption | refine Below.drew ?_ | refine Below.alloc ?_ (by first | exact Nat.le_refl _ | omega | (simp; done) | (simp; omega)) _ | refine Below.setCell ?_ (by first | exact Nat.le_refl _ | omega | (simp; done) | (simp; omega)) _))⟩
set_option maxHeartbeats 400000 in
theorem c_toTurnS (A : Option Addr) (cap : Nat) (ps : List Pt) (w : World) (h : Pts w A ps) (hl : ps.length ≤ 1048576) :
    Calls Tryz.prog 20 #[.slice A ps.length cap] w fun e w' => ∃ b, e = .returned (.slice (some ⟨b, 0, none⟩) ps.length ps.length) ∧ w.heap.size ≤ b ∧ Row w' b 101 (ps.flatMap ptC) ∧ Below w.heap.size w w' := by
  have hmk := fun W => run_make_fill ei_turn ptC ps (by omega) W
  go_enter Tryz.func20, Tryz.ntmps20
  go_wp2
  go_loopw [4] (fun i wr => ∃ k : Nat, k ≤ ps.length ∧ i = .int .i64 k ∧ Row wr w.heap.size 101 (fillC ptC [.int .i64 0, .int .i64 0] ps k) ∧ Below w.heap.size w wr) (fun i _ => ps.length - (intOf i).toNat)
  case atStart => exact ⟨0, Nat.zero_le _, rfl, Row.new _ _ _, (by repeat (first | exact Below.refl _ _ | assumption | refine Below.drew ?_ | refine Below.alloc ?_ (by first | exact Nat.le_refl _ | omega | (simp; done) | (simp; omega)) _ | refine Below.setCell ?_ (by first | exact Nat.le_refl _ | omega | (simp; done) | (simp; omega)) _))⟩
  case round =>
    obtain ⟨k, hk, rfl, hr, hbw⟩ := hrel
    clear hmk
    by_cases hlt : k < ps.length
    · obtain ⟨b, off, rfl, _hb, hc⟩ := (h.ext ptR_stab hbw).pts (by omega)
      obtain ⟨cx, cy⟩ := hc k hlt
      clear h hc
      go_wp2_with (go_at_call 55; refine (c_toTurn ps[k] _).mono ?_; rintro e w1 ⟨rfl, hb1⟩; have hr1 := hr.ext hb1; have e1 : w1.cell? ⟨w.heap.size, k * 2, none⟩ = some (.int .i64 0) := hr1.cell_of (fillC_get (j := 0) ptC_len rfl hlt (by decide)); have e2 : w1.cell? ⟨w.heap.size, k * 2 + 1, none⟩ = some (.int .i64 0) := hr1.cell_of (fillC_get (j := 1) ptC_len rfl hlt (by decide)); have e3 := hr1.frozen (k * 2); have e4 := hr1.frozen (k * 2 + 1); clear hr1)
      go_roundw
      case rel => exact ⟨k + 1, by omega, by go_num, by
        rw [← fillC_set ptC_len rfl hlt]
        exact ((hr.ext hb1).set_ _ _).set_ _ _, below_ext hbw hb1 |>.setCell (Nat.le_refl _) _ |>.setCell (Nat.le_refl _) _⟩
      case measure => simp [intOf]; omega
    · obtain rfl : k = ps.length := by omega
      clear h
      go_wp2
      go_ret
      exact ⟨_, rfl, Nat.le_refl _, by rw [← fillC_all (z := [.int .i64 0, .int .i64 0])]; exact hr, hbw⟩
set_option maxHeartbeats 1000000 in
theorem c_markTurnS {w : World} {B : Nat} {A : Option Addr} {n cap : Nat} {xs : List Value} (hown : Has w B 101 2 (.slice A n cap) n xs) (k : Int) (h0 : 0 ≤ k) (h1 : k ≤ 1000000000000) (hn : n ≤ 1000000000000) :
    Calls Tryz.prog 23 #[.slice A n cap, .int .i64 k] w fun e w' => e = .returned (.int .i64 (k + 2 * n)) ∧ Has w' B 101 2 (.slice A n cap) n ((mkP k n).flatMap ptC) ∧ w.grownBy w' (Value.slice A n cap).ownBlock := by
  have hlen := hown.1
  go_enter Tryz.func23, Tryz.ntmps23
  go_wp2
  go_loopw [1, 5] (fun kk i wr => ∃ j : Nat, j ≤ n ∧ i = .int .i64 j ∧ kk = .int .i64 (k + 2 * j) ∧ Has wr B 101 2 (.slice A n cap) n (mkd k (2 * j) xs) ∧ w.grownBy wr (Value.slice A n cap).ownBlock) (fun _ i _ => n - (intOf i).toNat)
  case atStart => exact ⟨0, Nat.zero_le _, rfl, by simp, by rw [Nat.mul_zero, mkd_zero]; exact hown, only_refl _ _⟩
  case round =>
    obtain ⟨j, hj, rfl, rfl, how, hgr⟩ := hrel
    by_cases hlt : j < n
    · obtain ⟨g, rfl, _, hg⟩ := own_at how (by omega)
      have c0 : wr.cell? ⟨g, j * 2, none⟩ = some ((mkd k (2 * j) xs)[j * 2]'(by rw [how.1]; omega)) := by rw [how.cellAt _ (by omega)]; exact List.getElem?_eq_getElem _
      have c1 : wr.cell? ⟨g, j * 2 + 1, none⟩ = some ((mkd k (2 * j) xs)[j * 2 + 1]'(by rw [how.1]; omega)) := by rw [how.cellAt _ (by omega)]; exact List.getElem?_eq_getElem _
      generalize (mkd k (2 * j) xs)[j * 2]'(by rw [how.1]; omega) = o0 at c0
      generalize (mkd k (2 * j) xs)[j * 2 + 1]'(by rw [how.1]; omega) = o1 at c1
      have f0 := how.frozenAt (j * 2)
      have f1 := how.frozenAt (j * 2 + 1)
      have st := (how.stored (j * 2) (.int .i64 (k + 2 * j))).1.stored (j * 2 + 1) (.int .i64 (k + 2 * j + 1))
      have hnew : ((mkd k (2 * j) xs).set (j * 2) (.int .i64 (k + 2 * (j : Int)))).set (j * 2 + 1) (.int .i64 (k + 2 * (j : Int) + 1)) = mkd k (2 * (j + 1)) xs := by
        have e1 : j * 2 = 2 * j := by omega
        have e2 : 2 * (j + 1) = 2 * j + 1 + 1 := by omega
        have q1 := mkd_set (k := k) (m := 2 * j) (xs := xs) (by omega)
        have q2 := mkd_set (k := k) (m := 2 * j + 1) (xs := xs) (by omega)
        have e4 : k + 2 * (j : Int) + 1 = k + ((2 * j + 1 : Nat) : Int) := by push_cast; omega
        have e3 : k + 2 * (j : Int) = k + ((2 * j : Nat) : Int) := by push_cast; omega
        rw [e1, e2, e4, e3, q1, q2]
      rw [hnew] at st
      have Hst := Lib.hid st.1
      have Hgr := Lib.hid (only_set (only_set hgr (j * 2) (.int .i64 (k + 2 * j))) (j * 2 + 1) (.int .i64 (k + 2 * j + 1)))
      clear st hnew how hgr hown
      go_wp2
      go_roundw
      case rel => exact ⟨j + 1, by omega, by go_num, by congr 1; push_cast; omega, Hst.out, Hgr.out⟩
      case measure => simp [intOf]; omega
    · obtain rfl : j = n := by omega
      rw [mkd_all (by omega), ← mkP_flat] at how
      go_wp2
      go_ret
      exact ⟨rfl, how, hgr⟩
theorem ei_done : EI Tryz.prog 95 99 (.agg #[.int .i64 0, .int .i64 0]) [.int .i64 0, .int .i64 0] 16 := ei_mk Tryz.underlying95 (by kernel_rfl) rfl (by decide) (by decide)
end Go.Proofs.YtagmnbphbakikaaGreat
