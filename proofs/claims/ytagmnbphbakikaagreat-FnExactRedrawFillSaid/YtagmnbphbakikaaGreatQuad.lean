/-
  Rows of four numbers an element: marked, and marks looked for.
-/
import Derived.Test.YtagmnbphbakikaaGreatMg2
namespace Go.Proofs.YtagmnbphbakikaaGreat
open Go Go.RowKit Reg
attribute [local go_sem] calmAt calmUpon
theorem mk_get (k : Int) {m j : Nat} (h : j < m) : (mk k m)[j]? = some (.int .i64 (k + (j : Int))) := by
  unfold mk; simp [h]
set_option maxHeartbeats 4000000 in
theorem c_markColorS {w : World} {B : Nat} {A : Option Addr} {n cap : Nat} {xs : List Value} (hown : Has w B 118 4 (.slice A n cap) n xs) (k : Int) (h0 : 0 ≤ k) (h1 : k ≤ 1000000000000) (hn : n ≤ 1000000000) :
    Calls Tryz.prog 49 #[.slice A n cap, .int .i64 k] w fun e w' => e = .returned (.int .i64 (k + 4 * n)) ∧ Has w' B 118 4 (.slice A n cap) n (mk k (4 * n)) ∧ w.grownBy w' (Value.slice A n cap).ownBlock := by
  have hlen := hown.1
  go_enter Tryz.func49, Tryz.ntmps49
  go_wp2
  go_loopw [1, 5] (fun kk i wr => ∃ j : Nat, j ≤ n ∧ i = .int .i64 j ∧ kk = .int .i64 (k + 4 * j) ∧ Has wr B 118 4 (.slice A n cap) n (mkd k (4 * j) xs) ∧ w.grownBy wr (Value.slice A n cap).ownBlock) (fun _ i _ => n - (intOf i).toNat)
  case atStart => exact ⟨0, Nat.zero_le _, rfl, by simp, by rw [Nat.mul_zero, mkd_zero]; exact hown, only_refl _ _⟩
  case round =>
    obtain ⟨j, hj, rfl, rfl, how, hgr⟩ := hrel
    by_cases hlt : j < n
    · obtain ⟨g, rfl, _, hg⟩ := own_at how (by omega)
      obtain ⟨o0, c0⟩ : ∃ u, wr.cell? ⟨g, j * 4, none⟩ = some u := ⟨_, by rw [how.cellAt _ (by omega)]; exact List.getElem?_eq_getElem (by rw [how.1]; omega)⟩
      obtain ⟨o1, c1⟩ : ∃ u, wr.cell? ⟨g, j * 4 + 1, none⟩ = some u := ⟨_, by rw [how.cellAt _ (by omega)]; exact List.getElem?_eq_getElem (by rw [how.1]; omega)⟩
      obtain ⟨o2, c2⟩ : ∃ u, wr.cell? ⟨g, j * 4 + 2, none⟩ = some u := ⟨_, by rw [how.cellAt _ (by omega)]; exact List.getElem?_eq_getElem (by rw [how.1]; omega)⟩
      obtain ⟨o3, c3⟩ : ∃ u, wr.cell? ⟨g, j * 4 + 3, none⟩ = some u := ⟨_, by rw [how.cellAt _ (by omega)]; exact List.getElem?_eq_getElem (by rw [how.1]; omega)⟩
      have f0 := how.frozenAt (j * 4)
      have f1 := how.frozenAt (j * 4 + 1)
      have f2 := how.frozenAt (j * 4 + 2)
      have f3 := how.frozenAt (j * 4 + 3)
      have st := ((((how.stored (j * 4) (.int .i64 (k + 4 * j))).1.stored (j * 4 + 1) (.int .i64 (k + 4 * j + 1))).1.stored (j * 4 + 2) (.int .i64 (k + 4 * j + 1 + 1))).1.stored (j * 4 + 3) (.int .i64 (k + 4 * j + 1 + 1 + 1)))
      have hnew : ((((mkd k (4 * j) xs).set (j * 4) (.int .i64 (k + 4 * (j : Int)))).set (j * 4 + 1) (.int .i64 (k + 4 * (j : Int) + 1))).set (j * 4 + 2) (.int .i64 (k + 4 * (j : Int) + 1 + 1))).set (j * 4 + 3) (.int .i64 (k + 4 * (j : Int) + 1 + 1 + 1)) = mkd k (4 * (j + 1)) xs := by
        have e1 : j * 4 = 4 * j := by omega
        have e2 : 4 * (j + 1) = 4 * j + 1 + 1 + 1 + 1 := by omega
        have q1 := mkd_set (k := k) (m := 4 * j) (xs := xs) (by omega)
        have q2 := mkd_set (k := k) (m := 4 * j + 1) (xs := xs) (by omega)
        have q3 := mkd_set (k := k) (m := 4 * j + 2) (xs := xs) (by omega)
        have q4 := mkd_set (k := k) (m := 4 * j + 3) (xs := xs) (by omega)
        have e3 : k + 4 * (j : Int) = k + ((4 * j : Nat) : Int) := by push_cast; omega
        have e4 : k + 4 * (j : Int) + 1 = k + ((4 * j + 1 : Nat) : Int) := by push_cast; omega
        have e5 : k + 4 * (j : Int) + 1 + 1 = k + ((4 * j + 2 : Nat) : Int) := by push_cast; omega
        have e6 : k + 4 * (j : Int) + 1 + 1 + 1 = k + ((4 * j + 3 : Nat) : Int) := by push_cast; omega
        rw [e1, e2, e6, e5, e4, e3, q1, q2, q3, q4]
      rw [hnew] at st
      have Hst := Lib.hid st.1
      have Hgr := Lib.hid (only_set (only_set (only_set (only_set hgr (j * 4) (.int .i64 (k + 4 * j))) (j * 4 + 1) (.int .i64 (k + 4 * j + 1))) (j * 4 + 2) (.int .i64 (k + 4 * j + 1 + 1))) (j * 4 + 3) (.int .i64 (k + 4 * j + 1 + 1 + 1)))
      clear st hnew how hgr hown
      go_wp2
      go_roundw
      case rel => exact ⟨j + 1, by omega, by go_num, by congr 1; push_cast; omega, Hst.out, Hgr.out⟩
      case measure => simp [intOf]; omega
    · obtain rfl : j = n := by omega
      rw [mkd_all (by omega)] at how
      go_wp2
      go_ret
      exact ⟨rfl, how, hgr⟩
set_option maxHeartbeats 4000000 in
theorem c_heldColorS {w : World} {B : Nat} {A : Option Addr} {n cap : Nat} (k : Int) (hown : Has w B 118 4 (.slice A n cap) n (mk k (4 * n))) (h0 : 0 ≤ k) (h1 : k ≤ 1000000000000) (hn : n ≤ 1000000000) :
    Calls Tryz.prog 50 #[.slice A n cap, .int .i64 k] w fun e w' => e = .returned (.int .i64 (k + 4 * n)) ∧ Below w.heap.size w w' := by
  have H := Lib.hid hown
  clear hown
  go_enter Tryz.func50, Tryz.ntmps50
  go_wp2
  go_loopw [1, 5] (fun kk i wr => ∃ j : Nat, j ≤ n ∧ i = .int .i64 j ∧ kk = .int .i64 (k + 4 * j) ∧ wr = w) (fun _ i _ => n - (intOf i).toNat)
  case atStart => exact ⟨0, Nat.zero_le _, rfl, by simp, rfl⟩
  case round =>
    obtain ⟨j, hj, rfl, rfl, rfl⟩ := hrel
    by_cases hlt : j < n
    · have how := H.out
      obtain ⟨g, rfl, _, hg⟩ := own_at how (by omega)
      have e0 : k + ((j * 4 : Nat) : Int) = k + 4 * (j : Int) := by push_cast; omega
      have e1 : k + ((j * 4 + 1 : Nat) : Int) = k + 4 * (j : Int) + 1 := by push_cast; omega
      have e2 : k + ((j * 4 + 2 : Nat) : Int) = k + 4 * (j : Int) + 1 + 1 := by push_cast; omega
      have e3 : k + ((j * 4 + 3 : Nat) : Int) = k + 4 * (j : Int) + 1 + 1 + 1 := by push_cast; omega
      have c0 := how.cellAt (j * 4) (by omega)
      have c1 := how.cellAt (j * 4 + 1) (by omega)
      have c2 := how.cellAt (j * 4 + 2) (by omega)
      have c3 := how.cellAt (j * 4 + 3) (by omega)
      rw [mk_get k (by omega), e0] at c0
      rw [mk_get k (by omega), e1] at c1
      rw [mk_get k (by omega), e2] at c2
      rw [mk_get k (by omega), e3] at c3
      clear how e0 e1 e2 e3 H
      go_wp2
      go_roundw
      case rel => exact ⟨j + 1, by omega, by go_num, by congr 1; push_cast; omega, by first | rfl | trivial⟩
      case measure => simp [intOf]; omega
    · obtain rfl : j = n := by omega
      clear H
      go_wp2
      go_ret
      exact ⟨rfl, Below.refl _ _⟩
end Go.Proofs.YtagmnbphbakikaaGreat
