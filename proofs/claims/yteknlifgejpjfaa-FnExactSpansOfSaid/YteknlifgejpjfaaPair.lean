/-
  Structs of two numbers compared, copied, marked, looked for: the walks of the laws' helpers (written by mkpair.py out of those of points).
-/
import Derived.Test.YteknlifgejpjfaaPts
import Derived.Test.YteknlifgejpjfaaMark
namespace Go.Proofs.Yteknlifgejpjfaa
open Go Go.RowKit Reg
attribute [local go_sem] calmAt calmUpon
theorem ei_cross : EI Try.prog 24 47 (.agg #[.int .i64 0, .int .i64 0]) [.int .i64 0, .int .i64 0] 16 := ei_mk Try.underlying24 (by kernel_rfl) rfl (by decide) (by decide)
set_option maxHeartbeats 400000 in
theorem c_eqCross (p q : Pt) (w : World) : Calls Try.prog 27 #[.agg #[.int .i64 p.1, .int .i64 p.2], .agg #[.int .i64 q.1, .int .i64 q.2]] w fun e w' => e = .returned (.bool (decide (p = q))) ∧ Below w.heap.size w w' := by
  obtain ⟨p1, p2⟩ := p
  obtain ⟨q1, q2⟩ := q
  go_enter Try.func27, Try.ntmps27
  go_wp2
  all_goals (go_ret; exact ⟨ret_b (by simp_all), (by repeat (first | exact Below.refl _ _ | assumption | refine Below.drew ?_ | refine Below.alloc ?_ (by first | exact Nat.le_refl _ | omega | (simp; done) | (simp; omega)) _ | refine Below.setCell ?_ (by first | exact Nat.le_refl _ | omega | (simp; done) | (simp; omega)) _))⟩)
set_option maxHeartbeats 400000 in
theorem c_eqCrossS (A A' : Option Addr) (cap cap' : Nat) (ps qs : List Pt) (w : World) (h : Pts w A ps) (h' : Pts w A' qs) (hl : ps.length ≤ 4611686018427387904) (hl' : qs.length ≤ 4611686018427387904) :
    Calls Try.prog 9 #[.slice A ps.length cap, .slice A' qs.length cap'] w fun e w' => e = .returned (.bool (decide (ps = qs))) ∧ Below w.heap.size w w' := by
  by_cases hlen : ps.length = qs.length
  · go_enter Try.func9, Try.ntmps9
    have hne : (((ps.length : Nat) : Int) != ((qs.length : Nat) : Int)) = false := by simp [hlen]
    have Hlen := Lib.hid hlen
    clear hlen
    go_wp2
    go_loopw [5] (fun i wr => ∃ k : Nat, k ≤ ps.length ∧ i = .int .i64 k ∧ ps.take k = qs.take k ∧ Below w.heap.size w wr) (fun i _ => ps.length - (intOf i).toNat)
    case atStart => exact ⟨0, Nat.zero_le _, rfl, by simp, Below.refl _ _⟩
    case round =>
      obtain ⟨k, hk, rfl, hal, hbw⟩ := hrel
      have hal' := Lib.hid hal
      clear hal
      by_cases hlt : k < ps.length
      · have hlt' : k < qs.length := by have := Hlen.out; omega
        obtain ⟨b, off, rfl, _hb, hc⟩ := (h.ext ptR_stab hbw).pts (by omega)
        obtain ⟨b', off', rfl, _hb', hc'⟩ := (h'.ext ptR_stab hbw).pts (by omega)
        obtain ⟨cx, cy⟩ := hc k hlt
        obtain ⟨cx', cy'⟩ := hc' k hlt'
        have hk1 : ps[k] = qs[k] → ps.take (k + 1) = qs.take (k + 1) := take_eq_succ hal'.out hlt hlt'
        have hk2 : ps[k] ≠ qs[k] → ps ≠ qs := ne_of_at hlt hlt'
        have Hk1 := Lib.hid hk1
        have Hk2 := Lib.hid hk2
        clear h hc h' hc' hk1 hk2
        generalize ps[k] = p at *
        generalize qs[k] = q at *
        go_wp2_with fail
        refine wp_region_calm [0,1,2,3,4,5,6,7,8,9] [] (by kernel_rfl) (by kernel_rfl) ?_
        iterate 8 ((refine calm_yes rfl rfl (fun w' hC => (by have cx := hC.cell cx; have cy := hC.cell cy;  have cx' := hC.cell cx'; have cy' := hC.cell cy'; go_simp; rfl)) (fun K hK => ?_); go_simp; refine hK _ ?_; clear hK K))
        (apply calm_call rfl rfl rfl Try.func27 (by kernel_rfl) rfl (by go_simp; rfl); exact (fun w' hC => c_eqCross p q w'); intro K hK; go_simp; refine hK _ ?_; clear hK K)
        (refine calm_yes rfl rfl (fun w' hC => (by go_simp; rfl)) (fun K hK => ?_); go_simp; refine hK _ ?_; clear hK K)
        refine calm_done (fun w1 hb1 => ?_)
        obtain ⟨d, hd⟩ : ∃ d, d = decide (p = q) := ⟨_, rfl⟩
        rw [← hd]
        have Hd := Lib.hid hd
        clear hd
        cases d
        · have hpq : ps ≠ qs := Hk2.out (by have := Hd.out; simpa using this.symm)
          go_wp2
          go_ret
          exact ⟨ret_b (by simp [hpq]), below_ext hbw hb1⟩
        · go_wp2
          go_roundw
          case rel => exact ⟨k + 1, by omega, by go_num, Hk1.out (by have := Hd.out; simpa using this.symm), below_ext hbw hb1⟩
          case measure => simp [intOf]; omega
      · have hk' : ps = qs := eq_of_take hal'.out (by omega) (by have := Hlen.out; omega)
        have Hk' := Lib.hid hk'
        clear h h' hk'
        go_wp2
        go_ret
        exact ⟨ret_b (by simp [Hk'.out]), hbw⟩
  · have hne : (((ps.length : Nat) : Int) != ((qs.length : Nat) : Int)) = true := by simp; omega
    have hpq : ps ≠ qs := fun h => hlen (by rw [h])
    go_enter Try.func9, Try.ntmps9
    go_wp2
    go_ret
    exact ⟨ret_b (by simp [hpq]), Below.refl _ _⟩
set_option maxHeartbeats 1000000 in
theorem c_markCrossS {w : World} {B : Nat} {A : Option Addr} {n cap : Nat} {xs : List Value} (hown : Has w B 47 2 (.slice A n cap) n xs) (k : Int) (h0 : 0 ≤ k) (h1 : k ≤ 1000000000000) (hn : n ≤ 1000000000000) :
    Calls Try.prog 12 #[.slice A n cap, .int .i64 k] w fun e w' => e = .returned (.int .i64 (k + 2 * n)) ∧ Has w' B 47 2 (.slice A n cap) n ((mkP k n).flatMap ptC) ∧ w.grownBy w' (Value.slice A n cap).ownBlock := by
  have hlen := hown.1
  go_enter Try.func12, Try.ntmps12
  go_wp2
  go_loopw [1, 5] (fun kk i wr => ∃ j : Nat, j ≤ n ∧ i = .int .i64 j ∧ kk = .int .i64 (k + 2 * j) ∧ Has wr B 47 2 (.slice A n cap) n (mkd k (2 * j) xs) ∧ w.grownBy wr (Value.slice A n cap).ownBlock) (fun _ i _ => n - (intOf i).toNat)
  case atStart => exact ⟨0, Nat.zero_le _, rfl, by simp, by rw [Nat.mul_zero, mkd_zero]; exact hown, only_refl _ _⟩
  case round =>
    obtain ⟨j, hj, rfl, rfl, how, hgr⟩ := hrel
    by_cases hlt : j < n
    · obtain ⟨g, rfl, _, hg⟩ := own_at how (by omega)
      have c0 : wr.cell? ⟨g, j * 2, none⟩ = some ((mkd k (2 * j) xs)[j * 2]'(by rw [how.1]; omega)) := by rw [how.cellAt _ (by omega)]; exact List.getElem?_eq_getElem _
      have c1 : wr.cell? ⟨g, j * 2 + 1, none⟩ = some ((mkd k (2 * j) xs)[j * 2 + 1]'(by rw [how.1]; omega)) := by rw [how.cellAt _ (by omega)]; exact List.getElem?_eq_getElem _
      generalize (mkd k (2 * j) xs)[j * 2]'(by rw [how.1]; omega) = o0 at c0
      generalize (mkd k (2 * j) xs)[j * 2 + 1]'(by rw [how.1]; omega) = o1 at c1
      have f0 := how.frozenAt (j * 2)
      have f1 := how.frozenAt (j * 2 + 1)
      have st := (how.stored (j * 2) (.int .i64 (k + 2 * j))).1.stored (j * 2 + 1) (.int .i64 (k + 2 * j + 1))
      have hnew : ((mkd k (2 * j) xs).set (j * 2) (.int .i64 (k + 2 * (j : Int)))).set (j * 2 + 1) (.int .i64 (k + 2 * (j : Int) + 1)) = mkd k (2 * (j + 1)) xs := by
        have e1 : j * 2 = 2 * j := by omega
        have e2 : 2 * (j + 1) = 2 * j + 1 + 1 := by omega
        have q1 := mkd_set (k := k) (m := 2 * j) (xs := xs) (by omega)
        have q2 := mkd_set (k := k) (m := 2 * j + 1) (xs := xs) (by omega)
        have e4 : k + 2 * (j : Int) + 1 = k + ((2 * j + 1 : Nat) : Int) := by push_cast; omega
        have e3 : k + 2 * (j : Int) = k + ((2 * j : Nat) : Int) := by push_cast; omega
        rw [e1, e2, e4, e3, q1, q2]
      rw [hnew] at st
      have Hst := Lib.hid st.1
      have Hgr := Lib.hid (only_set (only_set hgr (j * 2) (.int .i64 (k + 2 * j))) (j * 2 + 1) (.int .i64 (k + 2 * j + 1)))
      clear st hnew how hgr hown
      go_wp2
      go_roundw
      case rel => exact ⟨j + 1, by omega, by go_num, by congr 1; push_cast; omega, Hst.out, Hgr.out⟩
      case measure => simp [intOf]; omega
    · obtain rfl : j = n := by omega
      rw [mkd_all (by omega), ← mkP_flat] at how
      go_wp2
      go_ret
      exact ⟨rfl, how, hgr⟩
set_option maxHeartbeats 1000000 in
theorem c_heldCrossS (A : Option Addr) (cap n : Nat) (w : World) (k : Int) (h : Pts w A (mkP k n)) (h0 : 0 ≤ k) (h1 : k ≤ 1000000000000) (hn : n ≤ 1000000000000) :
    Calls Try.prog 13 #[.slice A n cap, .int .i64 k] w fun e w' => e = .returned (.int .i64 (k + 2 * n)) ∧ Below w.heap.size w w' := by
  go_enter Try.func13, Try.ntmps13
  go_wp2
  go_loopw [1, 5] (fun kk i wr => ∃ j : Nat, j ≤ n ∧ i = .int .i64 j ∧ kk = .int .i64 (k + 2 * j) ∧ Below w.heap.size w wr) (fun _ i _ => n - (intOf i).toNat)
  case atStart => exact ⟨0, Nat.zero_le _, rfl, by simp, Below.refl _ _⟩
  case round =>
    obtain ⟨j, hj, rfl, rfl, hbw⟩ := hrel
    by_cases hlt : j < n
    · have hl := mkP_len k n
      obtain ⟨b, off, rfl, _hb, hc⟩ := (h.ext ptR_stab hbw).pts (by omega)
      obtain ⟨cx, cy⟩ := hc j (by omega)
      rw [mkP_get] at cx cy
      clear h hc hl
      go_wp2
      go_roundw
      case rel => exact ⟨j + 1, by omega, by go_num, by congr 1; push_cast; omega, hbw⟩
      case measure => simp [intOf]; omega
    · obtain rfl : j = n := by omega
      clear h
      go_wp2
      go_ret
      exact ⟨rfl, hbw⟩
theorem ei_span : EI Try.prog 33 53 (.agg #[.int .i64 0, .int .i64 0]) [.int .i64 0, .int .i64 0] 16 := ei_mk Try.underlying33 (by kernel_rfl) rfl (by decide) (by decide)
set_option maxHeartbeats 400000 in
theorem c_eqSpan (p q : Pt) (w : World) : Calls Try.prog 34 #[.agg #[.int .i64 p.1, .int .i64 p.2], .agg #[.int .i64 q.1, .int .i64 q.2]] w fun e w' => e = .returned (.bool (decide (p = q))) ∧ Below w.heap.size w w' := by
  obtain ⟨p1, p2⟩ := p
  obtain ⟨q1, q2⟩ := q
  go_enter Try.func34, Try.ntmps34
  go_wp2
  all_goals (go_ret; exact ⟨ret_b (by simp_all), (by repeat (first | exact Below.refl _ _ | assumption | refine Below.drew ?_ | refine Below.alloc ?_ (by first | exact Nat.le_refl _ | omega | (simp; done) | (simp; omega)) _ | refine Below.setCell ?_ (by first | exact Nat.le_refl _ | omega | (simp; done) | (simp; omega)) _))⟩)
set_option maxHeartbeats 400000 in
theorem c_eqSpanS (A A' : Option Addr) (cap cap' : Nat) (ps qs : List Pt) (w : World) (h : Pts w A ps) (h' : Pts w A' qs) (hl : ps.length ≤ 4611686018427387904) (hl' : qs.length ≤ 4611686018427387904) :
    Calls Try.prog 16 #[.slice A ps.length cap, .slice A' qs.length cap'] w fun e w' => e = .returned (.bool (decide (ps = qs))) ∧ Below w.heap.size w w' := by
  by_cases hlen : ps.length = qs.length
  · go_enter Try.func16, Try.ntmps16
    have hne : (((ps.length : Nat) : Int) != ((qs.length : Nat) : Int)) = false := by simp [hlen]
    have Hlen := Lib.hid hlen
    clear hlen
    go_wp2
    go_loopw [5] (fun i wr => ∃ k : Nat, k ≤ ps.length ∧ i = .int .i64 k ∧ ps.take k = qs.take k ∧ Below w.heap.size w wr) (fun i _ => ps.length - (intOf i).toNat)
    case atStart => exact ⟨0, Nat.zero_le _, rfl, by simp, Below.refl _ _⟩
    case round =>
      obtain ⟨k, hk, rfl, hal, hbw⟩ := hrel
      have hal' := Lib.hid hal
      clear hal
      by_cases hlt : k < ps.length
      · have hlt' : k < qs.length := by have := Hlen.out; omega
        obtain ⟨b, off, rfl, _hb, hc⟩ := (h.ext ptR_stab hbw).pts (by omega)
        obtain ⟨b', off', rfl, _hb', hc'⟩ := (h'.ext ptR_stab hbw).pts (by omega)
        obtain ⟨cx, cy⟩ := hc k hlt
        obtain ⟨cx', cy'⟩ := hc' k hlt'
        have hk1 : ps[k] = qs[k] → ps.take (k + 1) = qs.take (k + 1) := take_eq_succ hal'.out hlt hlt'
        have hk2 : ps[k] ≠ qs[k] → ps ≠ qs := ne_of_at hlt hlt'
        have Hk1 := Lib.hid hk1
        have Hk2 := Lib.hid hk2
        clear h hc h' hc' hk1 hk2
        generalize ps[k] = p at *
        generalize qs[k] = q at *
        go_wp2_with fail
        refine wp_region_calm [0,1,2,3,4,5,6,7,8,9] [] (by kernel_rfl) (by kernel_rfl) ?_
        iterate 8 ((refine calm_yes rfl rfl (fun w' hC => (by have cx := hC.cell cx; have cy := hC.cell cy;  have cx' := hC.cell cx'; have cy' := hC.cell cy'; go_simp; rfl)) (fun K hK => ?_); go_simp; refine hK _ ?_; clear hK K))
        (apply calm_call rfl rfl rfl Try.func34 (by kernel_rfl) rfl (by go_simp; rfl); exact (fun w' hC => c_eqSpan p q w'); intro K hK; go_simp; refine hK _ ?_; clear hK K)
        (refine calm_yes rfl rfl (fun w' hC => (by go_simp; rfl)) (fun K hK => ?_); go_simp; refine hK _ ?_; clear hK K)
        refine calm_done (fun w1 hb1 => ?_)
        obtain ⟨d, hd⟩ : ∃ d, d = decide (p = q) := ⟨_, rfl⟩
        rw [← hd]
        have Hd := Lib.hid hd
        clear hd
        cases d
        · have hpq : ps ≠ qs := Hk2.out (by have := Hd.out; simpa using this.symm)
          go_wp2
          go_ret
          exact ⟨ret_b (by simp [hpq]), below_ext hbw hb1⟩
        · go_wp2
          go_roundw
          case rel => exact ⟨k + 1, by omega, by go_num, Hk1.out (by have := Hd.out; simpa using this.symm), below_ext hbw hb1⟩
          case measure => simp [intOf]; omega
      · have hk' : ps = qs := eq_of_take hal'.out (by omega) (by have := Hlen.out; omega)
        have Hk' := Lib.hid hk'
        clear h h' hk'
        go_wp2
        go_ret
        exact ⟨ret_b (by simp [Hk'.out]), hbw⟩
  · have hne : (((ps.length : Nat) : Int) != ((qs.length : Nat) : Int)) = true := by simp; omega
    have hpq : ps ≠ qs := fun h => hlen (by rw [h])
    go_enter Try.func16, Try.ntmps16
    go_wp2
    go_ret
    exact ⟨ret_b (by simp [hpq]), Below.refl _ _⟩
set_option maxHeartbeats 1000000 in
theorem c_markSpanS {w : World} {B : Nat} {A : Option Addr} {n cap : Nat} {xs : List Value} (hown : Has w B 53 2 (.slice A n cap) n xs) (k : Int) (h0 : 0 ≤ k) (h1 : k ≤ 1000000000000) (hn : n ≤ 1000000000000) :
    Calls Try.prog 17 #[.slice A n cap, .int .i64 k] w fun e w' => e = .returned (.int .i64 (k + 2 * n)) ∧ Has w' B 53 2 (.slice A n cap) n ((mkP k n).flatMap ptC) ∧ w.grownBy w' (Value.slice A n cap).ownBlock := by
  have hlen := hown.1
  go_enter Try.func17, Try.ntmps17
  go_wp2
  go_loopw [1, 5] (fun kk i wr => ∃ j : Nat, j ≤ n ∧ i = .int .i64 j ∧ kk = .int .i64 (k + 2 * j) ∧ Has wr B 53 2 (.slice A n cap) n (mkd k (2 * j) xs) ∧ w.grownBy wr (Value.slice A n cap).ownBlock) (fun _ i _ => n - (intOf i).toNat)
  case atStart => exact ⟨0, Nat.zero_le _, rfl, by simp, by rw [Nat.mul_zero, mkd_zero]; exact hown, only_refl _ _⟩
  case round =>
    obtain ⟨j, hj, rfl, rfl, how, hgr⟩ := hrel
    by_cases hlt : j < n
    · obtain ⟨g, rfl, _, hg⟩ := own_at how (by omega)
      have c0 : wr.cell? ⟨g, j * 2, none⟩ = some ((mkd k (2 * j) xs)[j * 2]'(by rw [how.1]; omega)) := by rw [how.cellAt _ (by omega)]; exact List.getElem?_eq_getElem _
      have c1 : wr.cell? ⟨g, j * 2 + 1, none⟩ = some ((mkd k (2 * j) xs)[j * 2 + 1]'(by rw [how.1]; omega)) := by rw [how.cellAt _ (by omega)]; exact List.getElem?_eq_getElem _
      generalize (mkd k (2 * j) xs)[j * 2]'(by rw [how.1]; omega) = o0 at c0
      generalize (mkd k (2 * j) xs)[j * 2 + 1]'(by rw [how.1]; omega) = o1 at c1
      have f0 := how.frozenAt (j * 2)
      have f1 := how.frozenAt (j * 2 + 1)
      have st := (how.stored (j * 2) (.int .i64 (k + 2 * j))).1.stored (j * 2 + 1) (.int .i64 (k + 2 * j + 1))
      have hnew : ((mkd k (2 * j) xs).set (j * 2) (.int .i64 (k + 2 * (j : Int)))).set (j * 2 + 1) (.int .i64 (k + 2 * (j : Int) + 1)) = mkd k (2 * (j + 1)) xs := by
        have e1 : j * 2 = 2 * j := by omega
        have e2 : 2 * (j + 1) = 2 * j + 1 + 1 := by omega
        have q1 := mkd_set (k := k) (m := 2 * j) (xs := xs) (by omega)
        have q2 := mkd_set (k := k) (m := 2 * j + 1) (xs := xs) (by omega)
        have e4 : k + 2 * (j : Int) + 1 = k + ((2 * j + 1 : Nat) : Int) := by push_cast; omega
        have e3 : k + 2 * (j : Int) = k + ((2 * j : Nat) : Int) := by push_cast; omega
        rw [e1, e2, e4, e3, q1, q2]
      rw [hnew] at st
      have Hst := Lib.hid st.1
      have Hgr := Lib.hid (only_set (only_set hgr (j * 2) (.int .i64 (k + 2 * j))) (j * 2 + 1) (.int .i64 (k + 2 * j + 1)))
      clear st hnew how hgr hown
      go_wp2
      go_roundw
      case rel => exact ⟨j + 1, by omega, by go_num, by congr 1; push_cast; omega, Hst.out, Hgr.out⟩
      case measure => simp [intOf]; omega
    · obtain rfl : j = n := by omega
      rw [mkd_all (by omega), ← mkP_flat] at how
      go_wp2
      go_ret
      exact ⟨rfl, how, hgr⟩
set_option maxHeartbeats 1000000 in
theorem c_heldSpanS (A : Option Addr) (cap n : Nat) (w : World) (k : Int) (h : Pts w A (mkP k n)) (h0 : 0 ≤ k) (h1 : k ≤ 1000000000000) (hn : n ≤ 1000000000000) :
    Calls Try.prog 18 #[.slice A n cap, .int .i64 k] w fun e w' => e = .returned (.int .i64 (k + 2 * n)) ∧ Below w.heap.size w w' := by
  go_enter Try.func18, Try.ntmps18
  go_wp2
  go_loopw [1, 5] (fun kk i wr => ∃ j : Nat, j ≤ n ∧ i = .int .i64 j ∧ kk = .int .i64 (k + 2 * j) ∧ Below w.heap.size w wr) (fun _ i _ => n - (intOf i).toNat)
  case atStart => exact ⟨0, Nat.zero_le _, rfl, by simp, Below.refl _ _⟩
  case round =>
    obtain ⟨j, hj, rfl, rfl, hbw⟩ := hrel
    by_cases hlt : j < n
    · have hl := mkP_len k n
      obtain ⟨b, off, rfl, _hb, hc⟩ := (h.ext ptR_stab hbw).pts (by omega)
      obtain ⟨cx, cy⟩ := hc j (by omega)
      rw [mkP_get] at cx cy
      clear h hc hl
      go_wp2
      go_roundw
      case rel => exact ⟨j + 1, by omega, by go_num, by congr 1; push_cast; omega, hbw⟩
      case measure => simp [intOf]; omega
    · obtain rfl : j = n := by omega
      clear h
      go_wp2
      go_ret
      exact ⟨rfl, hbw⟩
end Go.Proofs.Yteknlifgejpjfaa
