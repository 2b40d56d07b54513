/-
  Points marked, and marks looked for.
-/
import Derived.Test.YteknlifgejpjfaaPts
namespace Go.Proofs.Yteknlifgejpjfaa
open Go Go.RowKit Reg
set_option maxHeartbeats 1000000 in
theorem c_markPointS {w : World} {B : Nat} {A : Option Addr} {n cap : Nat} {xs : List Value} (hown : Has w B 58 2 (.slice A n cap) n xs) (k : Int) (h0 : 0 ≤ k) (h1 : k ≤ 1000000000000) (hn : n ≤ 1000000000000) :
    Calls Try.prog 29 #[.slice A n cap, .int .i64 k] w fun e w' => e = .returned (.int .i64 (k + 2 * n)) ∧ Has w' B 58 2 (.slice A n cap) n ((mkP k n).flatMap ptC) ∧ w.grownBy w' (Value.slice A n cap).ownBlock := by
  have hlen := hown.1
  go_enter Try.func29, Try.ntmps29
  go_wp2
  go_loopw [1, 5] (fun kk i wr => ∃ j : Nat, j ≤ n ∧ i = .int .i64 j ∧ kk = .int .i64 (k + 2 * j) ∧ Has wr B 58 2 (.slice A n cap) n (mkd k (2 * j) xs) ∧ w.grownBy wr (Value.slice A n cap).ownBlock) (fun _ i _ => n - (intOf i).toNat)
  case atStart => exact ⟨0, Nat.zero_le _, rfl, by simp, by rw [Nat.mul_zero, mkd_zero]; exact hown, only_refl _ _⟩
  case round =>
    obtain ⟨j, hj, rfl, rfl, how, hgr⟩ := hrel
    by_cases hlt : j < n
    · obtain ⟨g, rfl, _, hg⟩ := own_at how (by omega)
      have c0 : wr.cell? ⟨g, j * 2, none⟩ = some ((mkd k (2 * j) xs)[j * 2]'(by rw [how.1]; omega)) := by rw [how.cellAt _ (by omega)]; exact List.getElem?_eq_getElem _
      have c1 : wr.cell? ⟨g, j * 2 + 1, none⟩ = some ((mkd k (2 * j) xs)[j * 2 + 1]'(by rw [how.1]; omega)) := by rw [how.cellAt _ (by omega)]; exact List.getElem?_eq_getElem _
      generalize (mkd k (2 * j) xs)[j * 2]'(by rw [how.1]; omega) = o0 at c0
      generalize (mkd k (2 * j) xs)[j * 2 + 1]'(by rw [how.1]; omega) = o1 at c1
      have f0 := how.frozenAt (j * 2)
      have f1 := how.frozenAt (j * 2 + 1)
      have st := (how.stored (j * 2) (.int .i64 (k + 2 * j))).1.stored (j * 2 + 1) (.int .i64 (k + 2 * j + 1))
      have hnew : ((mkd k (2 * j) xs).set (j * 2) (.int .i64 (k + 2 * (j : Int)))).set (j * 2 + 1) (.int .i64 (k + 2 * (j : Int) + 1)) = mkd k (2 * (j + 1)) xs := by
        have e1 : j * 2 = 2 * j := by omega
        have e2 : 2 * (j + 1) = 2 * j + 1 + 1 := by omega
        have q1 := mkd_set (k := k) (m := 2 * j) (xs := xs) (by omega)
        have q2 := mkd_set (k := k) (m := 2 * j + 1) (xs := xs) (by omega)
        have e4 : k + 2 * (j : Int) + 1 = k + ((2 * j + 1 : Nat) : Int) := by push_cast; omega
        have e3 : k + 2 * (j : Int) = k + ((2 * j : Nat) : Int) := by push_cast; omega
        rw [e1, e2, e4, e3, q1, q2]
      rw [hnew] at st
      have Hst := Lib.hid st.1
      have Hgr := Lib.hid (only_set (only_set hgr (j * 2) (.int .i64 (k + 2 * j))) (j * 2 + 1) (.int .i64 (k + 2 * j + 1)))
      clear st hnew how hgr hown
      go_wp2
      go_roundw
      case rel => exact ⟨j + 1, by omega, by go_num, by congr 1; push_cast; omega, Hst.out, Hgr.out⟩
      case measure => simp [intOf]; omega
    · obtain rfl : j = n := by omega
      rw [mkd_all (by omega), ← mkP_flat] at how
      go_wp2
      go_ret
      exact ⟨rfl, how, hgr⟩
end Go.Proofs.Yteknlifgejpjfaa
