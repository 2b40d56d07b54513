/-
  Several texts in one: PixL, DrawL.
-/
import Derived.Test.YtagmnbphbakikaaGreatMg11
import Derived.Test.YtagmnbphbakikaaGreatMg16
import Derived.Test.YtagmnbphbakikaaGreatCover
namespace Go.Proofs.YtagmnbphbakikaaGreat
open Go
theorem rndL_mono {a a' b : Int} (hb : 0 < b) (h : a ≤ a') : rndL a b ≤ rndL a' b := by
  unfold rndL; exact Int.ediv_le_ediv (by omega) (by omega)
theorem rndL_mul {k b : Int} (hb : 0 < b) : rndL (k * b) b = k := by
  unfold rndL
  rw [show 2 * (k * b) + b = b + k * (2 * b) by rw [show k * (2 * b) = 2 * (k * b) from by rw [Int.mul_left_comm]]; omega, Int.add_mul_ediv_right _ _ (by omega), Int.ediv_eq_zero_of_lt (by omega) (by omega)]
  omega
theorem rndL_nn {a b : Int} (hb : 0 < b) (h : 0 ≤ a) : 0 ≤ rndL a b := by
  unfold rndL; exact Int.ediv_nonneg (by omega) (by omega)
theorem rndL_le {a b k : Int} (hb : 0 < b) (h : a ≤ k * b) : rndL a b ≤ k := Int.le_trans (rndL_mono hb h) (by rw [rndL_mul hb]; omega)
theorem coB_to {c : Bx4} : coB c = true ↔ (0 ≤ c.2.2.2 ∧ c.2.2.2 ≤ 255) ∧ (0 ≤ c.1 ∧ c.1 ≤ c.2.2.2) ∧ (0 ≤ c.2.1 ∧ c.2.1 ≤ c.2.2.2) ∧ (0 ≤ c.2.2.1 ∧ c.2.2.1 ≤ c.2.2.2) := by
  simp only [coB, decide_eq_true_eq]
theorem mixG_mono {t x y x' y' : Int} (ht : 0 ≤ t ∧ t ≤ 256) (hx : x ≤ x') (hy : y ≤ y') : mixG t x y ≤ mixG t x' y' := by
  unfold mixG
  refine rndL_mono (by decide) ?_
  have h1 : x * (256 - t) ≤ x' * (256 - t) := Int.mul_le_mul_of_nonneg_right hx (by omega)
  have h2 : y * t ≤ y' * t := Int.mul_le_mul_of_nonneg_right hy ht.1
  omega
theorem mixG_same {t k : Int} : mixG t k k = k := by
  unfold mixG
  rw [show k * (256 - t) + k * t = k * 256 by rw [Int.mul_sub]; omega]
  exact rndL_mul (by decide)
theorem coB_mix {a b : Bx4} {t : Int} (ha : coB a = true) (hb : coB b = true) (ht : 0 ≤ t ∧ t ≤ 256) : coB (mixL a b t) = true := by
  rw [coB_to] at ha hb ⊢
  have z : ∀ x y, 0 ≤ x → 0 ≤ y → 0 ≤ mixG t x y := fun x y hx hy => by rw [← mixG_same (t := t) (k := 0)]; exact mixG_mono ht hx hy
  refine ⟨⟨z _ _ ha.1.1 hb.1.1, ?_⟩, ⟨z _ _ ha.2.1.1 hb.2.1.1, mixG_mono ht ha.2.1.2 hb.2.1.2⟩, ⟨z _ _ ha.2.2.1.1 hb.2.2.1.1, mixG_mono ht ha.2.2.1.2 hb.2.2.1.2⟩, ⟨z _ _ ha.2.2.2.1 hb.2.2.2.1, mixG_mono ht ha.2.2.2.2 hb.2.2.2.2⟩⟩
  show mixG t _ _ ≤ 255
  rw [← mixG_same (t := t) (k := 255)]; exact mixG_mono ht ha.1.2 hb.1.2
def scL (c : Bx4) (part whole : Int) : Bx4 := (rndL (c.1 * part) whole, rndL (c.2.1 * part) whole, rndL (c.2.2.1 * part) whole, rndL (c.2.2.2 * part) whole)
def ovL (a b : Bx4) : Bx4 := (a.1 + rndL (b.1 * (255 - a.2.2.2)) 255, a.2.1 + rndL (b.2.1 * (255 - a.2.2.2)) 255, a.2.2.1 + rndL (b.2.2.1 * (255 - a.2.2.2)) 255, a.2.2.2 + rndL (b.2.2.2 * (255 - a.2.2.2)) 255)
theorem coB_sc {c : Bx4} {part whole : Int} (hc : coB c = true) (hw : 0 < whole) (hp : 0 ≤ part ∧ part ≤ whole) : coB (scL c part whole) = true := by
  rw [coB_to] at hc ⊢
  have z : ∀ x, 0 ≤ x → 0 ≤ rndL (x * part) whole := fun x hx => rndL_nn hw (Int.mul_nonneg hx hp.1)
  have m : ∀ x y, x ≤ y → rndL (x * part) whole ≤ rndL (y * part) whole := fun x y h => rndL_mono hw (Int.mul_le_mul_of_nonneg_right h hp.1)
  refine ⟨⟨z _ hc.1.1, ?_⟩, ⟨z _ hc.2.1.1, m _ _ hc.2.1.2⟩, ⟨z _ hc.2.2.1.1, m _ _ hc.2.2.1.2⟩, ⟨z _ hc.2.2.2.1, m _ _ hc.2.2.2.2⟩⟩
  exact rndL_le hw (Int.mul_le_mul hc.1.2 hp.2 hp.1 (by decide))
theorem coB_ov {a b : Bx4} (ha : coB a = true) (hb : coB b = true) : coB (ovL a b) = true := by
  have ha' := ha
  rw [coB_to] at ha' ⊢
  have h := coB_sc (part := 255 - a.2.2.2) (whole := 255) hb (by decide) (by omega)
  rw [coB_to] at h
  have hu : rndL (b.2.2.2 * (255 - a.2.2.2)) 255 ≤ 255 - a.2.2.2 := by
    refine rndL_le (by decide) ?_
    rw [Int.mul_comm]
    exact Int.mul_le_mul_of_nonneg_left (coB_to.1 hb).1.2 (by omega)
  simp only [scL, ovL] at h ⊢
  omega
theorem coB_stop {ss : List St} {t : Int} (h : stB ss = true) : coB (stopL ss t) = true := by
  have hl : 0 < ss.length := by
    unfold stB at h
    simp only [Bool.and_eq_true, inB, decide_eq_true_eq] at h
    omega
  have hat : ∀ k, k < ss.length → coB (stAt ss k).2 = true := fun k hk => by
    have := (stB_at h hk).2
    unfold stAt
    rw [List.getD_eq_getElem?_getD, List.getElem?_eq_getElem hk]
    exact this
  unfold stopL
  split
  · exact hat 0 hl
  · rename_i h0
    split
    · rename_i i hi
      rw [List.find?_range_eq_some] at hi
      obtain ⟨hp, hm, hj⟩ := hi
      rw [List.mem_range] at hm
      simp only [decide_eq_true_eq] at hp
      have hlo : ¬ t ≤ (stAt ss (i - 1)).1 := by
        by_cases h1 : i - 1 = 0
        · rw [h1]; exact h0
        · have := hj (i - 1) (by omega)
          simp at this
          omega
      unfold segL
      exact coB_mix (hat _ (by omega)) (hat _ hm) (seg_q (by omega) hp.2 (by omega))
    · exact hat _ (by omega)
theorem coB_paint {f t : Pt} {ss : List St} {c r : Int} (h : paB f t ss = true) : coB (paintL f t ss c r) = true := coB_stop (paB_iff.1 h).1
theorem coverL_bd (rs : List Rg) (rule c r : Int) : 0 ≤ coverL rs rule c r ∧ coverL rs rule c r ≤ 16 := by
  have := cnt_bd (smpS rs rule c r) 4 0
  unfold coverL
  omega
/-- The color of a pixel, after k of the fills. -/
def pixK (fs : List FlD) (c r : Int) : Nat → Bx4
  | 0 => (0, 0, 0, 0)
  | k + 1 => match fs[k]? with
    | some f => ovL (scL (paintL f.2.2.1 f.2.2.2.1 f.2.2.2.2 c r) (coverL (ringsL f.1) f.2.1 c r) 16) (pixK fs c r k)
    | none => pixK fs c r k
theorem pixK_succ {fs : List FlD} {c r : Int} {k : Nat} (h : k < fs.length) : pixK fs c r (k + 1) = ovL (scL (paintL fs[k].2.2.1 fs[k].2.2.2.1 fs[k].2.2.2.2 c r) (coverL (ringsL fs[k].1) fs[k].2.1 c r) 16) (pixK fs c r k) := by
  simp [pixK, h]
def pixL (fs : List FlD) (c r : Int) : Bx4 := pixK fs c r fs.length
theorem coB_pixK {fs : List FlD} {c r : Int} (h : ∀ f ∈ fs, paB f.2.2.1 f.2.2.2.1 f.2.2.2.2 = true) : ∀ k, k ≤ fs.length → coB (pixK fs c r k) = true
  | 0, _ => rfl
  | k + 1, hk => by
    rw [pixK_succ hk]
    exact coB_ov (coB_sc (coB_paint (h _ (List.getElem_mem hk))) (by decide) (coverL_bd _ _ _ _)) (coB_pixK h k (by omega))
end Go.Proofs.YtagmnbphbakikaaGreat
namespace Go.Proofs.YtagmnbphbakikaaGreat
open Go Go.RowKit
theorem bxC_len (c : Bx4) : (bxC c).length = 4 := rfl
def coR : World → Bx4 → List Value → Prop := fun _ c us => us = bxC c
theorem coR_stab : Stab coR := fun _ _ _ _ h _ => h
abbrev Cos (w : World) (A : Option Addr) (cs : List Bx4) : Prop := In coR 4 w A cs
theorem In.cos {w : World} {A : Option Addr} {cs : List Bx4} (h : Cos w A cs) (hn : 0 < cs.length) : ∃ b off, A = some ⟨b, off, none⟩ ∧ b < w.heap.size ∧
    ∀ (k : Nat) (h : k < cs.length), w.cell? ⟨b, off + k * 4, none⟩ = some (.int .i64 cs[k].1) ∧ w.cell? ⟨b, off + k * 4 + 1, none⟩ = some (.int .i64 cs[k].2.1) ∧ w.cell? ⟨b, off + k * 4 + 2, none⟩ = some (.int .i64 cs[k].2.2.1) ∧
      w.cell? ⟨b, off + k * 4 + 3, none⟩ = some (.int .i64 cs[k].2.2.2) := by
  have hlt := h.lt (by omega) hn
  obtain ⟨b, off, hA, hc⟩ := h hn
  refine ⟨b, off, hA, hlt b off hA, fun k hk => ?_⟩
  obtain ⟨us, h1, _, h3⟩ := hc k hk
  have h1' : us = bxC cs[k] := h1
  subst h1'
  exact ⟨h3 0 _ rfl, h3 1 _ rfl, h3 2 _ rfl, h3 3 _ rfl⟩
/-- The first i rows of wd pixels, and the first k pixels of the next. -/
def pixA (fs : List FlD) (wd i k : Nat) : List Bx4 := ((List.range i).flatMap fun a => (List.range wd).map fun c => pixL fs (c : Nat) (a : Nat)) ++ (List.range k).map fun c => pixL fs (c : Nat) (i : Nat)
theorem pixA_succ (fs : List FlD) (wd i k : Nat) : pixA fs wd i k ++ [pixL fs (k : Nat) (i : Nat)] = pixA fs wd i (k + 1) := by
  unfold pixA; rw [List.range_succ (n := k), List.map_append, ← List.append_assoc]; rfl
theorem pixA_row (fs : List FlD) (wd i : Nat) : pixA fs wd i wd = pixA fs wd (i + 1) 0 := by
  unfold pixA; rw [List.range_succ (n := i), List.flatMap_append]; simp
theorem pixA_len (fs : List FlD) (wd i k : Nat) : (pixA fs wd i k).length = i * wd + k := by
  have hs : ∀ i, ((List.range i).map fun _ => wd).sum = i * wd := by
    intro i
    induction i with
    | zero => simp
    | succ i ih => rw [List.range_succ, List.map_append, List.sum_append, ih, Nat.add_mul]; simp
  simp [pixA, List.length_flatMap, hs]
theorem pixA_bd (fs : List FlD) {wd i k : Nat} (h1 : wd ≤ 12) (h2 : i ≤ 12) (h3 : k ≤ 12) : (pixA fs wd i k).length ≤ 156 := by
  have := Nat.mul_le_mul h2 h1
  rw [pixA_len]; omega
/-- The picture of a scene. -/
def drawL (W H : Int) (fs : List FlD) : List Bx4 := pixA fs W.toNat H.toNat 0
def drawR (W H : Int) (fs : List FlD) : List Bx4 := if scB W H fs then drawL W H fs else []
def pixR (W H : Int) (fs : List FlD) (c r : Int) : Bx4 := if scB W H fs && (inB c 0 (W - 1) && inB r 0 (H - 1)) then pixL fs c r else (0, 0, 0, 0)
theorem scB_sz {W H : Int} {fs : List FlD} (h : scB W H fs = true) : (1 ≤ W ∧ W ≤ 12) ∧ (1 ≤ H ∧ H ≤ 12) := by
  unfold scB sizeB at h
  simp only [Bool.and_eq_true] at h
  exact ⟨inB_iff.1 h.1.1.1, inB_iff.1 h.1.1.2⟩
theorem scB_all {W H : Int} {fs : List FlD} (h : scB W H fs = true) : ∀ f ∈ fs, pathOk f.1 = true ∧ rgsB (ringsL f.1) = true ∧ inB f.2.1 0 1 = true ∧ paB f.2.2.1 f.2.2.2.1 f.2.2.2.2 = true := by
  intro f hf
  unfold scB at h
  simp only [Bool.and_eq_true, List.all_eq_true] at h
  have := h.2 f hf
  unfold flB at this
  simp only [Bool.and_eq_true] at this
  exact ⟨this.1.1.1, this.1.1.2, this.1.2, this.2⟩
theorem scB_le {W H : Int} {fs : List FlD} (h : scB W H fs = true) : fs.length ≤ 4 := by
  unfold scB at h
  simp only [Bool.and_eq_true, decide_eq_true_eq] at h
  exact h.1.2
theorem drawR_len (W H : Int) (fs : List FlD) : (drawR W H fs).length ≤ 156 := by
  unfold drawR drawL
  split
  · rename_i h
    have := scB_sz h
    exact pixA_bd _ (by omega) (by omega) (by omega)
  · simp
/-- A list in which a row of n numbers from j on is new. -/
def putRow (f : Nat → Bx4) (j : Nat) : Nat → List Bx4 → List Bx4
  | 0, xs => xs
  | n + 1, xs => (putRow f j n xs).set (j + n) (f n)
theorem putRow_len (f : Nat → Bx4) (j : Nat) (xs : List Bx4) : ∀ n, (putRow f j n xs).length = xs.length
  | 0 => rfl
  | n + 1 => by rw [putRow, List.length_set, putRow_len]
/-- A list in which n rows of wd, from row t on, columns l .. l + m, are new. -/
def putRows (g : Nat → Nat → Bx4) (wd l m t : Nat) : Nat → List Bx4 → List Bx4
  | 0, xs => xs
  | n + 1, xs => putRow (fun c => g (l + c) (t + n)) ((t + n) * wd + l) m (putRows g wd l m t n xs)
theorem putRows_len (g : Nat → Nat → Bx4) (wd l m t : Nat) (xs : List Bx4) : ∀ n, (putRows g wd l m t n xs).length = xs.length
  | 0 => rfl
  | n + 1 => by rw [putRows, putRow_len, putRows_len]
end Go.Proofs.YtagmnbphbakikaaGreat
