/-
  Rows of colors; pictures: plain.
-/
import Derived.Test.YtjgpojegaojnmaaGreatPixL
namespace Go.Proofs.YtjgpojegaojnmaaGreat
open Go Go.RowKit
theorem bxC_len (c : Bx4) : (bxC c).length = 4 := rfl
def coR : World → Bx4 → List Value → Prop := fun _ c us => us = bxC c
theorem coR_stab : Stab coR := fun _ _ _ _ h _ => h
abbrev Cos (w : World) (A : Option Addr) (cs : List Bx4) : Prop := In coR 4 w A cs
theorem In.cos {w : World} {A : Option Addr} {cs : List Bx4} (h : Cos w A cs) (hn : 0 < cs.length) : ∃ b off, A = some ⟨b, off, none⟩ ∧ b < w.heap.size ∧
    ∀ (k : Nat) (h : k < cs.length), w.cell? ⟨b, off + k * 4, none⟩ = some (.int .i64 cs[k].1) ∧ w.cell? ⟨b, off + k * 4 + 1, none⟩ = some (.int .i64 cs[k].2.1) ∧ w.cell? ⟨b, off + k * 4 + 2, none⟩ = some (.int .i64 cs[k].2.2.1) ∧
      w.cell? ⟨b, off + k * 4 + 3, none⟩ = some (.int .i64 cs[k].2.2.2) := by
  have hlt := h.lt (by omega) hn
  obtain ⟨b, off, hA, hc⟩ := h hn
  refine ⟨b, off, hA, hlt b off hA, fun k hk => ?_⟩
  obtain ⟨us, h1, _, h3⟩ := hc k hk
  have h1' : us = bxC cs[k] := h1
  subst h1'
  exact ⟨h3 0 _ rfl, h3 1 _ rfl, h3 2 _ rfl, h3 3 _ rfl⟩
/-- The first i rows of wd pixels, and the first k pixels of the next. -/
def pixA (fs : List FlD) (wd i k : Nat) : List Bx4 := ((List.range i).flatMap fun a => (List.range wd).map fun c => pixL fs (c : Nat) (a : Nat)) ++ (List.range k).map fun c => pixL fs (c : Nat) (i : Nat)
theorem pixA_succ (fs : List FlD) (wd i k : Nat) : pixA fs wd i k ++ [pixL fs (k : Nat) (i : Nat)] = pixA fs wd i (k + 1) := by
  unfold pixA; rw [List.range_succ (n := k), List.map_append, ← List.append_assoc]; rfl
theorem pixA_row (fs : List FlD) (wd i : Nat) : pixA fs wd i wd = pixA fs wd (i + 1) 0 := by
  unfold pixA; rw [List.range_succ (n := i), List.flatMap_append]; simp
theorem pixA_len (fs : List FlD) (wd i k : Nat) : (pixA fs wd i k).length = i * wd + k := by
  have hs : ∀ i, ((List.range i).map fun _ => wd).sum = i * wd := by
    intro i
    induction i with
    | zero => simp
    | succ i ih => rw [List.range_succ, List.map_append, List.sum_append, ih, Nat.add_mul]; simp
  simp [pixA, List.length_flatMap, hs]
theorem pixA_bd (fs : List FlD) {wd i k : Nat} (h1 : wd ≤ 12) (h2 : i ≤ 12) (h3 : k ≤ 12) : (pixA fs wd i k).length ≤ 156 := by
  have := Nat.mul_le_mul h2 h1
  rw [pixA_len]; omega
/-- The picture of a scene. -/
def drawL (W H : Int) (fs : List FlD) : List Bx4 := pixA fs W.toNat H.toNat 0
def drawR (W H : Int) (fs : List FlD) : List Bx4 := if scB W H fs then drawL W H fs else []
def pixR (W H : Int) (fs : List FlD) (c r : Int) : Bx4 := if scB W H fs && (inB c 0 (W - 1) && inB r 0 (H - 1)) then pixL fs c r else (0, 0, 0, 0)
theorem scB_sz {W H : Int} {fs : List FlD} (h : scB W H fs = true) : (1 ≤ W ∧ W ≤ 12) ∧ (1 ≤ H ∧ H ≤ 12) := by
  unfold scB sizeB at h
  simp only [Bool.and_eq_true] at h
  exact ⟨inB_iff.1 h.1.1.1, inB_iff.1 h.1.1.2⟩
theorem scB_all {W H : Int} {fs : List FlD} (h : scB W H fs = true) : ∀ f ∈ fs, pathOk f.1 = true ∧ rgsB (ringsL f.1) = true ∧ inB f.2.1 0 1 = true ∧ paB f.2.2.1 f.2.2.2.1 f.2.2.2.2 = true := by
  intro f hf
  unfold scB at h
  simp only [Bool.and_eq_true, List.all_eq_true] at h
  have := h.2 f hf
  unfold flB at this
  simp only [Bool.and_eq_true] at this
  exact ⟨this.1.1.1, this.1.1.2, this.1.2, this.2⟩
theorem scB_le {W H : Int} {fs : List FlD} (h : scB W H fs = true) : fs.length ≤ 4 := by
  unfold scB at h
  simp only [Bool.and_eq_true, decide_eq_true_eq] at h
  exact h.1.2
theorem drawR_len (W H : Int) (fs : List FlD) : (drawR W H fs).length ≤ 156 := by
  unfold drawR drawL
  split
  · rename_i h
    have := scB_sz h
    exact pixA_bd _ (by omega) (by omega) (by omega)
  · simp
/-- A list in which a row of n numbers from j on is new. -/
def putRow (f : Nat → Bx4) (j : Nat) : Nat → List Bx4 → List Bx4
  | 0, xs => xs
  | n + 1, xs => (putRow f j n xs).set (j + n) (f n)
theorem putRow_len (f : Nat → Bx4) (j : Nat) (xs : List Bx4) : ∀ n, (putRow f j n xs).length = xs.length
  | 0 => rfl
  | n + 1 => by rw [putRow, List.length_set, putRow_len]
/-- A list in which n rows of wd, from row t on, columns l .. l + m, are new. -/
def putRows (g : Nat → Nat → Bx4) (wd l m t : Nat) : Nat → List Bx4 → List Bx4
  | 0, xs => xs
  | n + 1, xs => putRow (fun c => g (l + c) (t + n)) ((t + n) * wd + l) m (putRows g wd l m t n xs)
theorem putRows_len (g : Nat → Nat → Bx4) (wd l m t : Nat) (xs : List Bx4) : ∀ n, (putRows g wd l m t n xs).length = xs.length
  | 0 => rfl
  | n + 1 => by rw [putRows, putRow_len, putRows_len]
end Go.Proofs.YtjgpojegaojnmaaGreat
