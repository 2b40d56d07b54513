/-
  How much of the pixels of a size is covered, row by row: the walks.
-/
import Derived.Test.YtagmnbphbakikaaGreatCover
import Derived.Test.YtagmnbphbakikaaGreatMg3
namespace Go.Proofs.YtagmnbphbakikaaGreat
open Go Go.RowKit Reg
attribute [local go_sem] calmAt calmUpon
/-- The first i rows of wd pixels, and the first k pixels of the next. -/
def cellsM (f : Nat → Nat → Int) (wd i k : Nat) : List Int := ((List.range i).flatMap fun a => (List.range wd).map (f a)) ++ (List.range k).map (f i)
theorem cellsM_succ (f : Nat → Nat → Int) (wd i k : Nat) : cellsM f wd i k ++ [f i k] = cellsM f wd i (k + 1) := by
  unfold cellsM; rw [List.range_succ (n := k), List.map_append, ← List.append_assoc]; rfl
theorem cellsM_row (f : Nat → Nat → Int) (wd i : Nat) : cellsM f wd i wd = cellsM f wd (i + 1) 0 := by
  unfold cellsM; rw [List.range_succ (n := i), List.flatMap_append]; simp
theorem cellsM_len (f : Nat → Nat → Int) {wd i k : Nat} (h1 : wd ≤ 12) (h2 : i ≤ 12) (h3 : k ≤ 12) : (cellsM f wd i k).length ≤ 156 := by
  have hs : ∀ i, ((List.range i).map fun _ => wd).sum = i * wd := by
    intro i
    induction i with
    | zero => simp
    | succ i ih => rw [List.range_succ, List.map_append, List.sum_append, ih, Nat.add_mul]; simp
  have h : (cellsM f wd i k).length = i * wd + k := by
    simp [cellsM, List.length_flatMap, hs]
  have := Nat.mul_le_mul h2 h1
  omega
def coverF (rs : List Rg) (rule : Int) (i k : Nat) : Int := coverL rs rule k i
def maskR (rs : List Rg) (rule wd ht : Int) : List Int := if rgsB rs && inB rule 0 1 && (inB wd 1 12 && inB ht 1 12) then cellsM (coverF rs rule) wd.toNat ht.toNat 0 else []
theorem maskR_len (rs : List Rg) (rule wd ht : Int) : (maskR rs rule wd ht).length ≤ 156 := by
  unfold maskR
  split
  · rename_i h
    simp only [Bool.and_eq_true] at h
    obtain ⟨_, h1, h2⟩ := h
    have h1 := inB_iff.1 h1
    have h2 := inB_iff.1 h2
    exact cellsM_len _ (by omega) (by omega) (by omega)
  · simp
/-- Numbers returned, in a row of their own. -/
def RetIs (w : World) (ns : List Int) (e : Ending) (w' : World) : Prop := ∃ A' cap', e = .returned (.slice A' ns.length cap') ∧ Has w' w.heap.size 3 1 (.slice A' ns.length cap') ns.length (ns.flatMap intC) ∧ Below w.heap.size w w'
theorem RetIs.none {w w' : World} {ns : List Int} (h : ns = []) (hb : Below w.heap.size w w') : RetIs w ns (.returned (.slice none 0 0)) w' := by
  subst h; exact ⟨.none, 0, rfl, own_nil _ _ _ _, hb⟩
set_option maxHeartbeats 1000000 in
theorem c_validSize (a b : Int) (w : World) : Calls Tryz.prog 64 #[.int .i64 a, .int .i64 b] w fun e w' => e = .returned (.bool (inB a 1 12 && inB b 1 12)) ∧ w = w' := by
  obtain ⟨d1, hd1⟩ : ∃ d, inB a 1 12 = d := ⟨_, rfl⟩
  have H1 := Lib.hid hd1
  rw [hd1]
  clear hd1
  go_enter Tryz.func64, Tryz.ntmps64
  go_wp2_with fail
  refine (c_inRange a 1 12 _).mono ?_
  rw [H1.out]
  rintro e w' ⟨rfl, rfl⟩
  cases d1
  · go_wp2
    go_ret
    exact ⟨rfl, rfl⟩
  · go_wp2_with fail
    refine (c_inRange b 1 12 _).mono ?_
    rintro e w' ⟨rfl, rfl⟩
    go_wp2
    go_ret
    exact ⟨rfl, rfl⟩
set_option maxHeartbeats 1000000 in
theorem c_sized (a b : Int) (w : World) : Calls Tryz.prog 92 #[.int .i64 a, .int .i64 b] w fun e w' => e = .returned (.bool (inB a 1 12 && inB b 1 12)) ∧ w = w' := by
  obtain ⟨d1, hd1⟩ : ∃ d, inB a 1 12 = d := ⟨_, rfl⟩
  have H1 := Lib.hid hd1
  rw [hd1]
  clear hd1
  go_enter Tryz.func92, Tryz.ntmps92
  go_wp2_with fail
  refine (c_in a 1 12 _).mono ?_
  rw [H1.out]
  rintro e w' ⟨rfl, rfl⟩
  cases d1
  · go_wp2
    go_ret
    exact ⟨rfl, rfl⟩
  · go_wp2_with fail
    refine (c_in b 1 12 _).mono ?_
    rintro e w' ⟨rfl, rfl⟩
    go_wp2
    go_ret
    exact ⟨rfl, rfl⟩
end Go.Proofs.YtagmnbphbakikaaGreat
