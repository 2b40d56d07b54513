/-
  Several texts in one: FrameL, FrameW, CloneQ, FrameD.
-/
import Derived.Test.YtagmnbphbakikaaGreatMg12
import Derived.Test.YtagmnbphbakikaaGreatTileL
import Derived.Test.YtagmnbphbakikaaGreatDrawW
import Derived.Test.YtagmnbphbakikaaGreatMg10
import Derived.Test.YtagmnbphbakikaaGreatMg11
import Derived.Test.YtagmnbphbakikaaGreatQuad
import Derived.Test.YtagmnbphbakikaaGreatMg3
import Derived.Test.YtagmnbphbakikaaGreatTileW
namespace Go.Proofs.YtagmnbphbakikaaGreat
open Go Go.RowKit Reg
/-- Is it a picture? -/
def frB (W H : Int) (cs : List Bx4) : Bool := sizeB W H && (decide ((cs.length : Int) = W * H) && cs.all coB)
theorem mul_12 {W H : Int} (hW : 1 ≤ W ∧ W ≤ 12) (hH : 1 ≤ H ∧ H ≤ 12) : 1 ≤ W * H ∧ W * H ≤ 144 := by
  obtain ⟨a, rfl⟩ : ∃ a : Nat, W = a := ⟨W.toNat, by omega⟩
  obtain ⟨b, rfl⟩ : ∃ b : Nat, H = b := ⟨H.toNat, by omega⟩
  have h1 : a * b ≤ 12 * 12 := Nat.mul_le_mul (by omega) (by omega)
  have h2 : 1 * 1 ≤ a * b := Nat.mul_le_mul (by omega) (by omega)
  rw [← Int.natCast_mul]
  omega
theorem tl_9 {W H : Int} (hW : 1 ≤ W ∧ W ≤ 12) (hH : 1 ≤ H ∧ H ≤ 12) : 1 ≤ tilesL W H ∧ tilesL W H ≤ 9 := by
  have hm : (1 ≤ acrL W ∧ acrL W ≤ 3) ∧ (1 ≤ acrL H ∧ acrL H ≤ 3) := by unfold acrL; omega
  have h1 := Int.mul_le_mul hm.1.2 hm.2.2 (by omega) (by omega)
  have h2 : 0 < acrL W * acrL H := Int.mul_pos (by omega) (by omega)
  unfold tilesL
  omega
theorem set3_below {B b : Nat} {w w' : World} (h : Below B w w') (hb : B ≤ b) (v0 v1 v2 : Value) : Below B w (((w'.setCell ⟨b, 0, none⟩ v0).setCell ⟨b, 1, none⟩ v1).setCell ⟨b, 2, none⟩ v2) :=
  ((h.setCell hb v0).setCell hb v1).setCell hb v2
theorem only_trans {a b c : World} {row : Option Nat} (h : a.grownBy b row) (k : b.grownBy c row) : a.grownBy c row :=
  ⟨k.os.trans h.os, k.tape.trans h.tape, k.output.trans h.output, Nat.le_trans h.size k.size, fun i hi hn => (k.block i (Nat.lt_of_lt_of_le hi h.size) hn).trans (h.block i hi hn)⟩
theorem pix_at {wd ht r c : Nat} (hr : r < ht) (hc : c < wd) : r * wd + c < wd * ht := by
  have := Nat.mul_le_mul_right wd (show r + 1 ≤ ht by omega)
  rw [Nat.add_mul, Nat.one_mul, Nat.mul_comm ht] at this
  omega
/-- The pixels of a picture in which a tile of a scene is drawn. -/
def tpix (W H : Int) (fs : List FlD) (t : Int) (cs : List Bx4) : List Bx4 :=
  if tlB W H t then
    putRows (fun c r => pixL fs ((c : Nat) : Int) ((r : Nat) : Int)) W.toNat (tileL W H t).1.toNat ((tileL W H t).2.2.1 - (tileL W H t).1).toNat (tileL W H t).2.1.toNat ((tileL W H t).2.2.2 - (tileL W H t).2.1).toNat cs
  else cs
theorem tpix_no {W H : Int} {fs : List FlD} {t : Int} {cs : List Bx4} (h : tlB W H t = false) : tpix W H fs t cs = cs := by
  unfold tpix; rw [h]; rfl
/-- What a tile is made of: left, wide, top, high. -/
theorem tpix_any {W H : Int} (t : Int) (fs : List FlD) (hW : 1 ≤ W ∧ W ≤ 12) (hH : 1 ≤ H ∧ H ≤ 12) : ∃ wd ht l m tp n : Nat, W = (wd : Int) ∧ H = (ht : Int) ∧
    (if tlB W H t then tileL W H t else (0, 0, 0, 0)) = ((l : Int), (tp : Int), ((l + m : Nat) : Int), ((tp + n : Nat) : Int)) ∧ (wd ≤ 12 ∧ ht ≤ 12) ∧ (l + m ≤ wd ∧ tp + n ≤ ht) ∧
    ∀ cs, tpix W H fs t cs = putRows (fun c r => pixL fs ((c : Nat) : Int) ((r : Nat) : Int)) wd l m tp n cs := by
  cases h : tlB W H t with
  | false =>
    refine ⟨W.toNat, H.toNat, 0, 0, 0, 0, by omega, by omega, rfl, by omega, by omega, fun cs => ?_⟩
    rw [tpix_no h]; rfl
  | true =>
    obtain ⟨_, _, _, h1, h2, _, h3, h4⟩ := tile_bd h
    have he : ∀ cs, tpix W H fs t cs = putRows (fun c r => pixL fs ((c : Nat) : Int) ((r : Nat) : Int)) W.toNat (tileL W H t).1.toNat ((tileL W H t).2.2.1 - (tileL W H t).1).toNat (tileL W H t).2.1.toNat ((tileL W H t).2.2.2 - (tileL W H t).2.1).toNat cs := fun cs => by unfold tpix; rw [if_pos h]
    rw [if_pos rfl]
    generalize tileL W H t = T at *
    obtain ⟨a, b, c, d⟩ := T
    dsimp only at h3 h4 he
    exact ⟨W.toNat, H.toNat, a.toNat, (c - a).toNat, b.toNat, (d - b).toNat, by omega, by omega, by simp only [Prod.mk.injEq]; omega, by omega, by omega, he⟩
theorem tpix_len (W H : Int) (fs : List FlD) (t : Int) (cs : List Bx4) : (tpix W H fs t cs).length = cs.length := by
  unfold tpix
  split
  · rw [putRows_len]
  · rfl
/-- Several tiles, one after the other. -/
def tpixs (W H : Int) (fs : List FlD) (ts : List Int) (cs : List Bx4) : List Bx4 := ts.foldl (fun cs t => tpix W H fs t cs) cs
theorem tpixs_len (W H : Int) (fs : List FlD) : ∀ (ts : List Int) (cs : List Bx4), (tpixs W H fs ts cs).length = cs.length
  | [], _ => rfl
  | t :: ts, cs => by
    show (tpixs W H fs ts (tpix W H fs t cs)).length = _
    rw [tpixs_len W H fs ts, tpix_len]
theorem tpixs_take (W H : Int) (fs : List FlD) {ts : List Int} {k : Nat} (hk : k < ts.length) (cs : List Bx4) : tpixs W H fs (ts.take (k + 1)) cs = tpix W H fs ts[k] (tpixs W H fs (ts.take k) cs) := by
  unfold tpixs
  rw [List.take_succ_eq_append_getElem hk, List.foldl_append]; rfl
theorem putRow_at (f : Nat → Bx4) (j k : Nat) (xs : List Bx4) : (putRow f j k xs).set (j + k) (f k) = putRow f j (k + 1) xs := rfl
theorem putRows_at (g : Nat → Nat → Bx4) (wd l m t n : Nat) (xs : List Bx4) : putRow (fun c => g (l + c) (t + n)) ((t + n) * wd + l) m (putRows g wd l m t n xs) = putRows g wd l m t (n + 1) xs := rfl
/-- Nothing drawn. -/
def blankL (n : Nat) : List Bx4 := List.replicate n (0, 0, 0, 0)
/-! ### four numbers replaced -/
theorem flat_set4 (q : Bx4) : ∀ (cs : List Bx4) (k : Nat), ((((cs.flatMap bxC).set (k * 4) (.int .i64 q.1)).set (k * 4 + 1) (.int .i64 q.2.1)).set (k * 4 + 2) (.int .i64 q.2.2.1)).set (k * 4 + 3) (.int .i64 q.2.2.2) = (cs.set k q).flatMap bxC
  | [], k => by simp
  | c :: cs, 0 => by simp [bxC]
  | c :: cs, k + 1 => by
    have ih := flat_set4 q cs k
    rw [List.flatMap_cons, List.set_cons_succ, List.flatMap_cons, ← ih]
    have hl : (bxC c).length = 4 := rfl
    rw [List.set_append_right _ _ (by omega), List.set_append_right _ _ (by omega), List.set_append_right _ _ (by omega), List.set_append_right _ _ (by omega), hl]
    have e0 : (k + 1) * 4 - 4 = k * 4 := by omega
    have e1 : (k + 1) * 4 + 1 - 4 = k * 4 + 1 := by omega
    have e2 : (k + 1) * 4 + 2 - 4 = k * 4 + 2 := by omega
    have e3 : (k + 1) * 4 + 3 - 4 = k * 4 + 3 := by omega
    rw [e0, e1, e2, e3]
def setQ (w : World) (g k : Nat) (q : Bx4) : World := (((w.setCell ⟨g, k * 4, none⟩ (.int .i64 q.1)).setCell ⟨g, k * 4 + 1, none⟩ (.int .i64 q.2.1)).setCell ⟨g, k * 4 + 2, none⟩ (.int .i64 q.2.2.1)).setCell ⟨g, k * 4 + 3, none⟩ (.int .i64 q.2.2.2)
theorem Has.putQ {w : World} {B g n cap : Nat} {e : TypeId} {cs : List Bx4} (h : Has w B e 4 (.slice (some ⟨g, 0, none⟩) n cap) n (cs.flatMap bxC)) (k : Nat) (q : Bx4) :
    Has (setQ w g k q) B e 4 (.slice (some ⟨g, 0, none⟩) n cap) n ((cs.set k q).flatMap bxC) ∧ w.grownBy (setQ w g k q) (some g) := by
  rw [← flat_set4 q cs k]
  exact ⟨((((h.stored (k * 4) (.int .i64 q.1)).1.stored (k * 4 + 1) (.int .i64 q.2.1)).1.stored (k * 4 + 2) (.int .i64 q.2.2.1)).1.stored (k * 4 + 3) (.int .i64 q.2.2.2)).1,
    only_set (only_set (only_set (only_set (only_refl w (some g)) (k * 4) (.int .i64 q.1)) (k * 4 + 1) (.int .i64 q.2.1)) (k * 4 + 2) (.int .i64 q.2.2.1)) (k * 4 + 3) (.int .i64 q.2.2.2)⟩
end Go.Proofs.YtagmnbphbakikaaGreat
namespace Go.Proofs.YtagmnbphbakikaaGreat
open Go Go.RowKit Reg
attribute [local go_sem] calmAt calmUpon
/-- A picture. -/
abbrev frV (W H : Int) (A : Option Addr) (n cap : Nat) : Value := .agg #[.int .i64 W, .int .i64 H, .slice A n cap]
set_option maxRecDepth 100000 in
set_option maxHeartbeats 4000000 in
theorem c_eqFrame (W H : Int) (A1 A2 : Option Addr) (cap1 cap2 : Nat) (cs : List Bx4) (w : World) (h1 : Cos w A1 cs) (h2 : Cos w A2 cs) (hl : cs.length ≤ 1048576) :
    Calls Tryz.prog 11 #[frV W H A1 cs.length cap1, frV W H A2 cs.length cap2] w fun e w' => e = .returned (.bool true) ∧ Below w.heap.size w w' := by
  have P1 := Lib.hid h1
  have P2 := Lib.hid h2
  have E := Lib.hid (Below.refl w.heap.size w)
  clear h1 h2
  go_enter Tryz.func11, Tryz.ntmps11
  go_wp2_with fail
  first | refine gen_calls ?_ | refine gen_code ?_ | refine gen_list ?_
  intro w0 hW
  obtain ⟨hb, hR1, hR2⟩ := new2 hW
  clear hW
  replace E := Lib.hid (Ext.trans E.out hb)
  replace P1 := Lib.hid (P1.out.ext coR_stab hb)
  replace P2 := Lib.hid (P2.out.ext coR_stab hb)
  clear hb
  have R1 := Lib.hid hR1
  have lR1 := R1.out.lt
  clear hR1
  have R2 := Lib.hid hR2
  have lR2 := R2.out.lt
  clear hR2
  have k0 := R1.out.cell_of (i := 0) rfl
  have k1 := R1.out.cell_of (i := 1) rfl
  have k2 := R1.out.cell_of (i := 2) rfl
  have m0 := R2.out.cell_of (i := 0) rfl
  have m1 := R2.out.cell_of (i := 1) rfl
  have m2 := R2.out.cell_of (i := 2) rfl
  go_wp2_with fail
  clear k0 k1 k2 m0 m1 m2
  refine (c_eqColorS A1 A2 _ _ cs _ P1.out P2.out hl).mono ?_
  rintro e w1 ⟨rfl, hb⟩
  replace E := Lib.hid (Ext.trans E.out hb)
  replace P1 := Lib.hid (P1.out.ext coR_stab hb)
  replace P2 := Lib.hid (P2.out.ext coR_stab hb)
  replace R1 := Lib.hid (R1.out.ext hb)
  have lR1 := R1.out.lt
  replace R2 := Lib.hid (R2.out.ext hb)
  have lR2 := R2.out.lt
  clear hb
  have k0 := R1.out.cell_of (i := 0) rfl
  have k1 := R1.out.cell_of (i := 1) rfl
  have k2 := R1.out.cell_of (i := 2) rfl
  have m0 := R2.out.cell_of (i := 0) rfl
  have m1 := R2.out.cell_of (i := 1) rfl
  have m2 := R2.out.cell_of (i := 2) rfl
  go_wp2
  go_ret
  exact ⟨rfl, E.out⟩
set_option maxRecDepth 100000 in
set_option maxHeartbeats 4000000 in
theorem c_markFrame {w : World} {B : Nat} {A : Option Addr} {n cap : Nat} {xs : List Value} (W H : Int) (hown : Has w B 118 4 (.slice A n cap) n xs) (k : Int) (h0 : 0 ≤ k) (h1 : k ≤ 1000000000) (hn : n ≤ 1000000000) :
    Calls Tryz.prog 16 #[frV W H A n cap, .int .i64 k] w fun e w' => e = .returned (.int .i64 (k + 4 * n)) ∧ Has w' B 118 4 (.slice A n cap) n (mk k (4 * n)) ∧ w.grownBy w' (Value.slice A n cap).ownBlock := by
  have O := Lib.hid hown
  have E := Lib.hid (Below.refl w.heap.size w)
  clear hown
  go_enter Tryz.func16, Tryz.ntmps16
  go_wp2_with fail
  first | refine gen_calls ?_ | refine gen_code ?_ | refine gen_list ?_
  intro w0 hW
  obtain ⟨hb, hR0⟩ := new1 hW
  clear hW
  replace E := Lib.hid (Ext.trans E.out hb)
  replace O := Lib.hid (own_ext O.out hb)
  clear hb
  have R0 := Lib.hid hR0
  have lR0 := R0.out.lt
  clear hR0
  have c0 := R0.out.cell_of (i := 0) rfl
  have c1 := R0.out.cell_of (i := 1) rfl
  have c2 := R0.out.cell_of (i := 2) rfl
  go_wp2_with fail
  clear c0 c1 c2
  refine (c_markColorS O.out k h0 (by omega) hn).mono ?_
  rintro e w1 ⟨rfl, ho, hg⟩
  have O1 := Lib.hid ho
  have G := Lib.hid (only_trans (only_ext (only_refl w (Value.slice A n cap).ownBlock) E.out) hg)
  clear ho hg
  go_wp2
  go_ret
  exact ⟨rfl, O1.out, G.out⟩
set_option maxRecDepth 100000 in
set_option maxHeartbeats 4000000 in
theorem c_heldFrame {w : World} {B : Nat} {A : Option Addr} {n cap : Nat} (W H : Int) (k : Int) (hown : Has w B 118 4 (.slice A n cap) n (mk k (4 * n))) (h0 : 0 ≤ k) (h1 : k ≤ 1000000000) (hn : n ≤ 1000000000) :
    Calls Tryz.prog 17 #[frV W H A n cap, .int .i64 k] w fun e w' => e = .returned (.int .i64 (k + 4 * n)) ∧ Below w.heap.size w w' := by
  have O := Lib.hid hown
  have E := Lib.hid (Below.refl w.heap.size w)
  clear hown
  go_enter Tryz.func17, Tryz.ntmps17
  go_wp2_with fail
  first | refine gen_calls ?_ | refine gen_code ?_ | refine gen_list ?_
  intro w0 hW
  obtain ⟨hb, hR0⟩ := new1 hW
  clear hW
  replace E := Lib.hid (Ext.trans E.out hb)
  replace O := Lib.hid (own_ext O.out hb)
  clear hb
  have R0 := Lib.hid hR0
  have lR0 := R0.out.lt
  clear hR0
  have c0 := R0.out.cell_of (i := 0) rfl
  have c1 := R0.out.cell_of (i := 1) rfl
  have c2 := R0.out.cell_of (i := 2) rfl
  go_wp2_with fail
  clear c0 c1 c2
  refine (c_heldColorS k O.out h0 (by omega) hn).mono ?_
  rintro e w1 ⟨rfl, hb⟩
  replace E := Lib.hid (Ext.trans E.out hb)
  replace O := Lib.hid (own_ext O.out hb)
  replace R0 := Lib.hid (R0.out.ext hb)
  have lR0 := R0.out.lt
  clear hb
  have c0 := R0.out.cell_of (i := 0) rfl
  have c1 := R0.out.cell_of (i := 1) rfl
  have c2 := R0.out.cell_of (i := 2) rfl
  go_wp2
  go_ret
  exact ⟨rfl, E.out⟩
end Go.Proofs.YtagmnbphbakikaaGreat
namespace Go.Proofs.YtagmnbphbakikaaGreat
open Go Go.RowKit Reg
theorem bxC_one (c : Bx4) : ∀ u ∈ bxC c, u.oneCell' = true := by
  intro u hu
  simp only [bxC, List.mem_cons, List.not_mem_nil, or_false] at hu
  rcases hu with rfl | rfl | rfl | rfl <;> rfl
end Go.Proofs.YtagmnbphbakikaaGreat
namespace Go.Proofs.YtagmnbphbakikaaGreat
open Go Go.RowKit Reg
attribute [local go_sem] calmAt calmUpon
theorem rows_next (g : Nat → Nat → Bx4) (wd l m tp i : Nat) (xs : List Bx4) (h : tp ≤ i) : putRow (fun c => g (l + c) i) (i * wd + l) m (putRows g wd l m tp (i - tp) xs) = putRows g wd l m tp (i + 1 - tp) xs := by
  obtain ⟨d, rfl⟩ : ∃ d, i = tp + d := ⟨i - tp, by omega⟩
  rw [show tp + d - tp = d by omega, show tp + d + 1 - tp = d + 1 by omega]
  rfl
theorem row_next (g : Nat → Nat → Bx4) (J l i j : Nat) (xs : List Bx4) (h : l ≤ j) : (putRow (fun c => g (l + c) i) (J + l) (j - l) xs).set (J + j) (g j i) = putRow (fun c => g (l + c) i) (J + l) (j + 1 - l) xs := by
  obtain ⟨d, rfl⟩ : ∃ d, j = l + d := ⟨j - l, by omega⟩
  rw [show l + d - l = d by omega, show l + d + 1 - l = d + 1 by omega, ← Nat.add_assoc]
  rfl
abbrev okFs (fs : List FlD) : Prop := ∀ f ∈ fs, pathOk f.1 = true ∧ rgsB (ringsL f.1) = true ∧ inB f.2.1 0 1 = true ∧ paB f.2.2.1 f.2.2.2.1 f.2.2.2.2 = true
set_option maxRecDepth 100000 in
set_option maxHeartbeats 8000000 in
theorem c_fdraw (W H : Int) (A : Option Addr) (cap : Nat) (cs : List Bx4) (As : Option Addr) (scap : Nat) (fs : List FlD) (t : Int) (B : Nat) (w0 w : World) (h : Fls w0 As fs) (hx : Below w0.heap.size w0 w) (hB : w0.heap.size ≤ B)
    (ho : Has w B 118 4 (.slice A cs.length cap) cs.length (cs.flatMap bxC)) (hl : (cs.length : Int) = W * H) (hv : okFs fs) (h4 : fs.length ≤ 4) (hW : 1 ≤ W ∧ W ≤ 12) (hH : 1 ≤ H ∧ H ≤ 12) :
    Calls Tryz.prog 41 #[frV W H A cs.length cap, .agg #[.int .i64 W, .int .i64 H, .slice As fs.length scap], .int .i64 t] w fun e w' => e = .returned (.bool (tlB W H t)) ∧ Has w' B 118 4 (.slice A cs.length cap) cs.length ((tpix W H fs t cs).flatMap bxC) ∧ w.grownBy w' (Value.slice A cs.length cap).ownBlock := by
  have h1 := mul_12 hW hH
  obtain ⟨wd, ht, l, m, tp, n, rfl, rfl, hbx, ⟨hwd, hht⟩, ⟨hlm, htn⟩, hpix⟩ := tpix_any t fs hW hH
  obtain ⟨g, rfl, hBg, hgw⟩ := own_at ho (by omega)
  obtain ⟨PX, hPXd⟩ : ∃ PX : Nat → Nat → Bx4, PX = fun c r => pixL fs ((c : Nat) : Int) ((r : Nat) : Int) := ⟨_, rfl⟩
  have hPX : ∀ c r : Nat, pixL fs (c : Int) (r : Int) = PX c r := fun c r => by rw [hPXd]
  rw [← hPXd] at hpix
  obtain ⟨rt, hrt⟩ : ∃ rt, l + m = rt := ⟨_, rfl⟩
  obtain ⟨bt, hbt⟩ : ∃ bt, tp + n = bt := ⟨_, rfl⟩
  rw [hrt, hbt] at hbx
  rw [hrt] at hlm
  rw [hbt] at htn
  have hlen : cs.length = wd * ht := by rw [← Int.natCast_mul] at hl; omega
  have h144 : wd * ht ≤ 12 * 12 := Nat.mul_le_mul hwd hht
  have hl144 : cs.length ≤ 144 := by omega
  have Hlen := Lib.hid hlen
  have hz0 : w0.heap.size ≤ w.heap.size := hx.size
  have KB := Lib.hid (fun Wd => c_TileBox wd ht t Wd)
  rw [hbx] at KB
  obtain ⟨d, hd⟩ : ∃ d, tlB wd ht t = d := ⟨_, rfl⟩
  rw [hd] at KB ⊢
  have HP := Lib.hid (hpix cs)
  obtain ⟨M, hM⟩ : ∃ M, tpix wd ht fs t cs = M := ⟨_, rfl⟩
  rw [hM] at HP ⊢
  have PW := Lib.hid h
  have Hv := Lib.hid hv
  have E := Lib.hid hx
  have O := Lib.hid ho
  have G := Lib.hid (only_refl w (some g))
  have hPX := Lib.hid hPX
  replace hPX := hPX.out
  clear h hv hx ho hM hd hbx hpix hPXd h1 h144 hl hW hH hlen
  go_enter Tryz.func41, Tryz.ntmps41
  go_wp2_with fail
  first | refine gen_calls ?_ | refine gen_code ?_ | refine gen_list ?_
  intro wa hW
  obtain ⟨hb, hR3, hR4⟩ := new2 hW
  clear hW
  replace E := Lib.hid (Ext.trans E.out hb)
  replace O := Lib.hid (own_ext O.out hb)
  replace G := Lib.hid (only_ext G.out hb)
  clear hb
  have R3 := Lib.hid hR3
  have lR3 := R3.out.lt
  clear hR3
  have R4 := Lib.hid hR4
  have lR4 := R4.out.lt
  clear hR4
  have k0 := R3.out.cell_of (i := 0) rfl
  have k1 := R3.out.cell_of (i := 1) rfl
  have k2 := R3.out.cell_of (i := 2) rfl
  have s0 := R4.out.cell_of (i := 0) rfl
  have s1 := R4.out.cell_of (i := 1) rfl
  have s2 := R4.out.cell_of (i := 2) rfl
  go_wp2_with fail
  clear k0 k1 k2 s0 s1 s2
  refine (KB.out _).mono ?_
  rintro e w1 ⟨rfl, hb⟩
  replace E := Lib.hid (Ext.trans E.out hb)
  replace O := Lib.hid (own_ext O.out hb)
  replace G := Lib.hid (only_ext G.out hb)
  replace R3 := Lib.hid (R3.out.ext hb)
  have lR3 := R3.out.lt
  replace R4 := Lib.hid (R4.out.ext hb)
  have lR4 := R4.out.lt
  clear hb
  have k0 := R3.out.cell_of (i := 0) rfl
  have k1 := R3.out.cell_of (i := 1) rfl
  have k2 := R3.out.cell_of (i := 2) rfl
  have s0 := R4.out.cell_of (i := 0) rfl
  have s1 := R4.out.cell_of (i := 1) rfl
  have s2 := R4.out.cell_of (i := 2) rfl
  go_wp2_with fail
  clear k0 k1 k2 s0 s1 s2
  first | refine gen_calls ?_ | refine gen_code ?_ | refine gen_list ?_
  intro w2 hW
  obtain ⟨hb, hR7⟩ := new1 hW
  clear hW
  replace E := Lib.hid (Ext.trans E.out hb)
  replace O := Lib.hid (own_ext O.out hb)
  replace G := Lib.hid (only_ext G.out hb)
  replace R3 := Lib.hid (R3.out.ext hb)
  have lR3 := R3.out.lt
  replace R4 := Lib.hid (R4.out.ext hb)
  have lR4 := R4.out.lt
  clear hb
  have R7 := Lib.hid hR7
  have lR7 := R7.out.lt
  clear hR7
  have k0 := R3.out.cell_of (i := 0) rfl
  have k1 := R3.out.cell_of (i := 1) rfl
  have k2 := R3.out.cell_of (i := 2) rfl
  have s0 := R4.out.cell_of (i := 0) rfl
  have s1 := R4.out.cell_of (i := 1) rfl
  have s2 := R4.out.cell_of (i := 2) rfl
  clear k0 k1 k2 s0 s1 s2
  go_loopw [9, 10] (fun r _ wr => ∃ (i : Nat) (xs : List Bx4), tp ≤ i ∧ i ≤ bt ∧ r = .int .i64 i ∧ xs = putRows PX wd l m tp (i - tp) cs ∧ Has wr B 118 4 (.slice (some ⟨g, 0, none⟩) cs.length cap) cs.length (xs.flatMap bxC) ∧ Row wr w.heap.size 37 [.int .i64 wd, .int .i64 ht, .slice (some ⟨g, 0, none⟩) cs.length cap] ∧ Row wr (w.heap.size + 1) 42 [.int .i64 wd, .int .i64 ht, .slice As fs.length scap] ∧ Row wr w1.heap.size 122 [.int .i64 l, .int .i64 tp, .int .i64 rt, .int .i64 bt] ∧ Below w0.heap.size w0 wr ∧ w.grownBy wr (some g)) (fun r _ _ => bt - (intOf r).toNat)
  case atStart => exact ⟨tp, cs, Nat.le_refl _, by omega, rfl, by rw [Nat.sub_self]; rfl, O.out, R3.out, R4.out, R7.out, E.out, G.out⟩
  case round =>
    obtain ⟨i, xs, hi1, hi2, rfl, hxs, hor, hr3, hr4, hr7, hbw, hgr⟩ := hrel
    clear O E R3 R4 R7 G
    have O := Lib.hid hor
    have E := Lib.hid hbw
    have R3 := Lib.hid hr3
    have R4 := Lib.hid hr4
    have R7 := Lib.hid hr7
    have G := Lib.hid hgr
    have hGs : w.heap.size ≤ wr.heap.size := hgr.size
    have Hxs := Lib.hid hxs
    clear hor hbw hxs hr3 hr4 hr7 hgr
    by_cases hlt : i < bt
    · have hltI : decide ((i : Int) < (bt : Int)) = true := by simp; omega
      have b0 := R7.out.cell_of (i := 0) rfl
      have b1 := R7.out.cell_of (i := 1) rfl
      have b2 := R7.out.cell_of (i := 2) rfl
      have b3 := R7.out.cell_of (i := 3) rfl
      go_wp2_with fail
      go_loopw [10] (fun c wr => ∃ (j : Nat) (ys : List Bx4), l ≤ j ∧ j ≤ rt ∧ c = .int .i64 j ∧ ys = putRow (fun c => PX (l + c) i) (i * wd + l) (j - l) (putRows PX wd l m tp (i - tp) cs) ∧ Has wr B 118 4 (.slice (some ⟨g, 0, none⟩) cs.length cap) cs.length (ys.flatMap bxC) ∧ Row wr w.heap.size 37 [.int .i64 wd, .int .i64 ht, .slice (some ⟨g, 0, none⟩) cs.length cap] ∧ Row wr (w.heap.size + 1) 42 [.int .i64 wd, .int .i64 ht, .slice As fs.length scap] ∧ Row wr w1.heap.size 122 [.int .i64 l, .int .i64 tp, .int .i64 rt, .int .i64 bt] ∧ Below w0.heap.size w0 wr ∧ w.grownBy wr (some g)) (fun c _ => rt - (intOf c).toNat)
      case atStart => exact ⟨l, xs, Nat.le_refl _, by omega, rfl, by rw [Nat.sub_self]; exact Hxs.out, O.out, R3.out, R4.out, R7.out, E.out, G.out⟩
      case round =>
        obtain ⟨j, ys, hj1, hj2, rfl, hys, hor, hr3, hr4, hr7, hbw, hgr⟩ := hrel
        clear b0 b1 b2 b3
        clear O E R3 R4 R7 G
        have O := Lib.hid hor
        have E := Lib.hid hbw
        have R3 := Lib.hid hr3
        have R4 := Lib.hid hr4
        have R7 := Lib.hid hr7
        have G := Lib.hid hgr
        have hGs : w.heap.size ≤ wr.heap.size := hgr.size
        have Hys := Lib.hid hys
        clear hor hbw hys hr3 hr4 hr7 hgr
        by_cases hlk : j < rt
        · have hlkI : decide ((j : Int) < (rt : Int)) = true := by simp; omega
          obtain ⟨J, hJ⟩ : ∃ J, i * wd = J := ⟨_, rfl⟩
          obtain ⟨k, hk⟩ : ∃ k, J + j = k := ⟨_, rfl⟩
          have hkl : k < cs.length := by rw [Hlen.out, ← hk, ← hJ]; exact pix_at (by omega) (by omega)
          have hk144 : k ≤ 144 := by omega
          have hJ144 : J ≤ 144 := by omega
          have Hn : Hid (ys.set k (PX j i) = putRow (fun c => PX (l + c) i) (i * wd + l) (j + 1 - l) (putRows PX wd l m tp (i - tp) cs)) := Lib.hid (by rw [Hys.out, ← hk, hJ]; exact row_next PX J l i j _ hj1)
          have KC := Lib.hid (fun Wd (hW : Fls Wd As fs) => c_ipixel wd ht As scap fs j i Wd hW Hv.out h4 (inB_iff.2 (by omega)) (inB_iff.2 (by omega)))
          have hq : pixL fs (j : Int) (i : Int) = PX j i := hPX j i
          rw [hq] at KC
          generalize PX j i = q at *
          have g1 : IntKind.i64.wrap ((i : Int) * (wd : Int)) = (J : Int) := by rw [← Int.natCast_mul, hJ]; exact IntWalk.i64_in _ (by omega)
          have g2 : IntKind.i64.wrap ((J : Int) + (j : Int)) = (k : Int) := by rw [← hk, Int.natCast_add]; exact IntWalk.i64_in _ (by omega)
          have g3 : (k : Int) < (cs.length : Int) := by omega
          have g4 : (0 : Int) ≤ (k : Int) := by omega
          clear hJ hk hq
          have k0 := R3.out.cell_of (i := 0) rfl
          have k1 := R3.out.cell_of (i := 1) rfl
          have k2 := R3.out.cell_of (i := 2) rfl
          have s0 := R4.out.cell_of (i := 0) rfl
          have s1 := R4.out.cell_of (i := 1) rfl
          have s2 := R4.out.cell_of (i := 2) rfl
          have b0 := R7.out.cell_of (i := 0) rfl
          have b1 := R7.out.cell_of (i := 1) rfl
          have b2 := R7.out.cell_of (i := 2) rfl
          have b3 := R7.out.cell_of (i := 3) rfl
          go_wp2_with fail
          refine wp_region_calm [0,1,2,3,4,5,6,7,8,9,10] [11,12,13] (by kernel_rfl) (by kernel_rfl) ?_
          iterate 11 ((refine calm_yes rfl rfl (fun w' hC => (by have k0 := hC.cell k0; have k1 := hC.cell k1; have k2 := hC.cell k2; have s0 := hC.cell s0; have s1 := hC.cell s1; have s2 := hC.cell s2; go_simp; rfl)) (fun K hK => ?_); go_simp; refine hK _ ?_; clear hK K))
          refine calm_nil (fun wa hCa => ?_)
          clear k0 k1 k2 s0 s1 s2 b0 b1 b2 b3
          have Ea := ext_cls hCa
          refine late_fn rfl rfl rfl Tryz.func79 (by kernel_rfl) rfl (by go_simp) (fun wb hxb K hK => (KC.out wb (PW.out.ext flR_stab (Ext.trans (Ext.trans E.out Ea) hxb))).mono ?_)
          rintro e wc ⟨rfl, hb⟩
          refine ⟨_, rfl, hK _ _ ⟨fun _ => Cls.ext (Cls.ext hCa hxb) hb, ?_⟩⟩
          clear hK K
          refine late_free (by kernel_rfl) rfl rfl (fun wi hxi K hK => ?_)
          go_simp
          refine hK _ _ ?_
          clear hK K
          refine late_free (by kernel_rfl) rfl rfl (fun wf hxf K hK => ?_)
          have Ex := Ext.trans (Ext.trans Ea hxb) (Ext.trans (Ext.trans hb hxi) hxf)
          have Of := own_ext O.out Ex
          obtain ⟨o0, e0⟩ : ∃ u, wf.cell? ⟨g, k * 4, none⟩ = some u := ⟨_, by rw [Of.cellAt _ (by omega)]; exact List.getElem?_eq_getElem (by rw [Of.1]; omega)⟩
          obtain ⟨o1, e1⟩ : ∃ u, wf.cell? ⟨g, k * 4 + 1, none⟩ = some u := ⟨_, by rw [Of.cellAt _ (by omega)]; exact List.getElem?_eq_getElem (by rw [Of.1]; omega)⟩
          obtain ⟨o2, e2⟩ : ∃ u, wf.cell? ⟨g, k * 4 + 2, none⟩ = some u := ⟨_, by rw [Of.cellAt _ (by omega)]; exact List.getElem?_eq_getElem (by rw [Of.1]; omega)⟩
          obtain ⟨o3, e3⟩ : ∃ u, wf.cell? ⟨g, k * 4 + 3, none⟩ = some u := ⟨_, by rw [Of.cellAt _ (by omega)]; exact List.getElem?_eq_getElem (by rw [Of.1]; omega)⟩
          have f0 := Of.frozenAt (k * 4)
          have f1 := Of.frozenAt (k * 4 + 1)
          have f2 := Of.frozenAt (k * 4 + 2)
          have f3 := Of.frozenAt (k * 4 + 3)
          go_simp
          refine hK _ _ ?_
          clear hK K e0 e1 e2 e3 f0 f1 f2 f3
          refine late_nil (fun wz hxz => ?_)
          have hQ := Of.putQ k q
          have O2 := Lib.hid (own_ext hQ.1 hxz)
          have hzf : w0.heap.size ≤ wf.heap.size := Nat.le_trans hz0 (Nat.le_trans hGs Ex.size)
          have E2 : Hid (Below w0.heap.size w0 wz) := Lib.hid (Ext.trans (own_below (Ext.trans E.out Ex) (Of.rebase hB) hQ.2 hzf) hxz)
          have R32 := Lib.hid (((R3.out.ext Ex).grownNe Of (by decide) hQ.2).ext hxz)
          have R42 := Lib.hid (((R4.out.ext Ex).grownNe Of (by decide) hQ.2).ext hxz)
          have R72 := Lib.hid (((R7.out.ext Ex).grownNe Of (by decide) hQ.2).ext hxz)
          have G2 := Lib.hid (only_ext (only_trans (only_ext G.out Ex) hQ.2) hxz)
          clear hQ hxz hxf hxi hb hxb hCa Ea Ex Of
          go_wp2
          go_roundw
          case rel => exact ⟨j + 1, _, by omega, by omega, by go_num, Hn.out, O2.out, R32.out, R42.out, R72.out, E2.out, G2.out⟩
          case measure => simp [intOf]; omega
        · obtain rfl : j = rt := by omega
          have hlkI : decide ((j : Int) < (j : Int)) = false := by simp
          have Hf : Hid (ys = putRows PX wd l m tp (i + 1 - tp) cs) := Lib.hid (by rw [Hys.out, show j - l = m by omega]; exact rows_next PX wd l m tp i cs hi1)
          have b0 := R7.out.cell_of (i := 0) rfl
          have b1 := R7.out.cell_of (i := 1) rfl
          have b2 := R7.out.cell_of (i := 2) rfl
          have b3 := R7.out.cell_of (i := 3) rfl
          go_wp2
          go_roundw
          case rel => exact ⟨i + 1, ys, by omega, by omega, by go_num, Hf.out, O.out, R3.out, R4.out, R7.out, E.out, G.out⟩
          case measure => simp [intOf]; omega
    · obtain rfl : i = bt := by omega
      have hltI : decide ((i : Int) < (i : Int)) = false := by simp
      have Hf : Hid (xs = M) := Lib.hid (by rw [Hxs.out, HP.out, show i - tp = n by omega])
      have b0 := R7.out.cell_of (i := 0) rfl
      have b1 := R7.out.cell_of (i := 1) rfl
      have b2 := R7.out.cell_of (i := 2) rfl
      have b3 := R7.out.cell_of (i := 3) rfl
      go_wp2
      go_ret
      exact ⟨rfl, by rw [← Hf.out]; exact O.out, G.out⟩
set_option maxRecDepth 100000 in
set_option maxHeartbeats 8000000 in
theorem c_tilePixels (W H : Int) (A : Option Addr) (cap : Nat) (cs : List Bx4) (As : Option Addr) (scap : Nat) (fs : List FlD) (t : Int) (w : World) (h : Fls w As fs)
    (ho : Cos w A cs) (hl : (cs.length : Int) = W * H) (hv : okFs fs) (h4 : fs.length ≤ 4) (hW : 1 ≤ W ∧ W ≤ 12) (hH : 1 ≤ H ∧ H ≤ 12) (ht0 : tlB W H t = true) :
    Calls Tryz.prog 33 #[frV W H A cs.length cap, .agg #[.int .i64 W, .int .i64 H, .slice As fs.length scap], .int .i64 t] w fun e w' => ∃ A' cap', e = .returned (frV W H A' cs.length cap') ∧ Has w' w.heap.size 118 4 (.slice A' cs.length cap') cs.length ((tpix W H fs t cs).flatMap bxC) ∧ Below w.heap.size w w' := by
  have h1 := mul_12 hW hH
  have KB := Lib.hid (fun Wd => c_tileBox W H t Wd ht0)
  obtain ⟨wd, ht, l, m, tp, n, rfl, rfl, hbx, ⟨hwd, hht⟩, ⟨hlm, htn⟩, hpix⟩ := tpix_any t fs hW hH
  obtain ⟨PX, hPXd⟩ : ∃ PX : Nat → Nat → Bx4, PX = fun c r => pixL fs ((c : Nat) : Int) ((r : Nat) : Int) := ⟨_, rfl⟩
  have hPX : ∀ c r : Nat, pixL fs (c : Int) (r : Int) = PX c r := fun c r => by rw [hPXd]
  rw [← hPXd] at hpix
  obtain ⟨rt, hrt⟩ : ∃ rt, l + m = rt := ⟨_, rfl⟩
  obtain ⟨bt, hbt⟩ : ∃ bt, tp + n = bt := ⟨_, rfl⟩
  rw [hrt, hbt] at hbx
  rw [hrt] at hlm
  rw [hbt] at htn
  have hlen : cs.length = wd * ht := by rw [← Int.natCast_mul] at hl; omega
  have h144 : wd * ht ≤ 12 * 12 := Nat.mul_le_mul hwd hht
  have hl144 : cs.length ≤ 144 := by omega
  have Hlen := Lib.hid hlen
  have hz0 : w.heap.size ≤ w.heap.size := Nat.le_refl _
  rw [if_pos ht0] at hbx
  rw [hbx] at KB
  have HP := Lib.hid (hpix cs)
  obtain ⟨M, hM⟩ : ∃ M, tpix wd ht fs t cs = M := ⟨_, rfl⟩
  rw [hM] at HP ⊢
  have PW := Lib.hid h
  have Hv := Lib.hid hv
  have E := Lib.hid (Below.refl w.heap.size w)
  have C := Lib.hid ho
  have hpos : 0 < cs.length := by omega
  clear h hv ho hM hbx hpix hPXd h1 h144 hl hW hH ht0 hlen
  go_enter Tryz.func33, Tryz.ntmps33
  go_wp2_with fail
  first | refine gen_calls ?_ | refine gen_code ?_ | refine gen_list ?_
  intro wa hW
  obtain ⟨hb, hR3, hR4, hR6⟩ := new3 hW
  clear hW
  replace E := Lib.hid (Ext.trans E.out hb)
  replace C := Lib.hid (C.out.ext coR_stab hb)
  clear hb
  have R3 := Lib.hid hR3
  have lR3 := R3.out.lt
  clear hR3
  have R4 := Lib.hid hR4
  have lR4 := R4.out.lt
  clear hR4
  have R6 := Lib.hid hR6
  have lR6 := R6.out.lt
  clear hR6
  have k0 := R3.out.cell_of (i := 0) rfl
  have k1 := R3.out.cell_of (i := 1) rfl
  have k2 := R3.out.cell_of (i := 2) rfl
  have s0 := R4.out.cell_of (i := 0) rfl
  have s1 := R4.out.cell_of (i := 1) rfl
  have s2 := R4.out.cell_of (i := 2) rfl
  go_wp2_with fail
  clear k0 k1 k2 s0 s1 s2
  refine (KB.out _).mono ?_
  rintro e w1 ⟨rfl, hb⟩
  replace E := Lib.hid (Ext.trans E.out hb)
  replace C := Lib.hid (C.out.ext coR_stab hb)
  replace R3 := Lib.hid (R3.out.ext hb)
  have lR3 := R3.out.lt
  replace R4 := Lib.hid (R4.out.ext hb)
  have lR4 := R4.out.lt
  replace R6 := Lib.hid (R6.out.ext hb)
  have lR6 := R6.out.lt
  clear hb
  have k0 := R3.out.cell_of (i := 0) rfl
  have k1 := R3.out.cell_of (i := 1) rfl
  have k2 := R3.out.cell_of (i := 2) rfl
  have s0 := R4.out.cell_of (i := 0) rfl
  have s1 := R4.out.cell_of (i := 1) rfl
  have s2 := R4.out.cell_of (i := 2) rfl
  go_wp2_with (at_builtin; refine stop_in ?_)
  refine stop_out ?_
  clear k0 k1 k2 s0 s1 s2
  refine gen_list ?_
  intro w2 hW
  obtain ⟨hb, hR7, hRO⟩ := new2 hW
  clear hW
  replace E := Lib.hid (Ext.trans E.out hb)
  replace C := Lib.hid (C.out.ext coR_stab hb)
  replace R3 := Lib.hid (R3.out.ext hb)
  have lR3 := R3.out.lt
  replace R4 := Lib.hid (R4.out.ext hb)
  have lR4 := R4.out.lt
  replace R6 := Lib.hid (R6.out.ext hb)
  have lR6 := R6.out.lt
  clear hb
  have R7 := Lib.hid hR7
  have lR7 := R7.out.lt
  clear hR7
  have RO := Lib.hid hRO
  have lRO := RO.out.lt
  clear hRO
  have k0 := R3.out.cell_of (i := 0) rfl
  have k1 := R3.out.cell_of (i := 1) rfl
  have k2 := R3.out.cell_of (i := 2) rfl
  have s0 := R4.out.cell_of (i := 0) rfl
  have s1 := R4.out.cell_of (i := 1) rfl
  have s2 := R4.out.cell_of (i := 2) rfl
  clear k0 k1 k2 s0 s1 s2
  refine wpList_app (base := w.heap.size) ei_co rfl (.tmp 17) (.tmp 19) rfl rfl (own_of_row (n := 0) (B := w.heap.size) (sz := 4) RO.out (by have := E.out.size; omega) rfl (by decide)) rfl (C.out.src bxC_len (fun x us h => h) bxC_one (by decide)) (by omega) (by have := E.out.size; omega) ?_
  intro ve w3 hown hg hat
  obtain ⟨A8, cap8, hve⟩ := own_form hown
  have O : Hid (Has w3 w.heap.size 118 4 (.slice A8 cs.length cap8) cs.length (cs.flatMap bxC)) := Lib.hid (by
    have h := hown
    rw [hve] at h
    simpa using h)
  have hve' : ve = .slice A8 cs.length cap8 := by rw [hve]; simp
  have OR := own_of_row (n := 0) (B := w.heap.size) (sz := 4) RO.out (by have := E.out.size; omega) rfl (by decide)
  replace R3 := Lib.hid (R3.out.grownNe OR (by decide) hg)
  replace R4 := Lib.hid (R4.out.grownNe OR (by decide) hg)
  replace R6 := Lib.hid (R6.out.grownNe OR (by decide) hg)
  replace R7 := Lib.hid (R7.out.grownNe OR (by decide) hg)
  have E3 := Lib.hid (own_below E.out OR hg E.out.size)
  clear hown hg hat hve OR RO lRO E C
  have E := E3
  clear E3
  subst hve'
  obtain ⟨g, rfl, hBg, hgw⟩ := own_at O.out hpos
  have b0 := R7.out.cell_of (i := 0) rfl
  have b1 := R7.out.cell_of (i := 1) rfl
  have b2 := R7.out.cell_of (i := 2) rfl
  have b3 := R7.out.cell_of (i := 3) rfl
  go_wp2_with fail
  clear b0 b1 b2 b3
  go_loopw [9, 10] (fun r _ wr => ∃ (i : Nat) (xs : List Bx4), tp ≤ i ∧ i ≤ bt ∧ r = .int .i64 i ∧ xs = putRows PX wd l m tp (i - tp) cs ∧ Has wr w.heap.size 118 4 (.slice (some ⟨g, 0, none⟩) cs.length cap8) cs.length (xs.flatMap bxC) ∧ Row wr w.heap.size 37 [.int .i64 wd, .int .i64 ht, .slice A cs.length cap] ∧ Row wr (w.heap.size + 1) 42 [.int .i64 wd, .int .i64 ht, .slice As fs.length scap] ∧ Row wr (w.heap.size + 1 + 1) 37 [.int .i64 0, .int .i64 0, .slice none 0 0] ∧ Row wr w1.heap.size 122 [.int .i64 l, .int .i64 tp, .int .i64 rt, .int .i64 bt] ∧ Below w.heap.size w wr) (fun r _ _ => bt - (intOf r).toNat)
  case atStart => exact ⟨tp, cs, Nat.le_refl _, by omega, rfl, by rw [Nat.sub_self]; rfl, O.out, R3.out, R4.out, R6.out, R7.out, E.out⟩
  case round =>
    obtain ⟨i, xs, hi1, hi2, rfl, hxs, hor, hr3, hr4, hr6, hr7, hbw⟩ := hrel
    clear O E R3 R4 R6 R7
    have O := Lib.hid hor
    have E := Lib.hid hbw
    have R3 := Lib.hid hr3
    have R4 := Lib.hid hr4
    have R6 := Lib.hid hr6
    have R7 := Lib.hid hr7
    have hGs : w.heap.size ≤ wr.heap.size := hbw.size
    have Hxs := Lib.hid hxs
    clear hor hbw hxs hr3 hr4 hr6 hr7
    by_cases hlt : i < bt
    · have hltI : decide ((i : Int) < (bt : Int)) = true := by simp; omega
      have b0 := R7.out.cell_of (i := 0) rfl
      have b1 := R7.out.cell_of (i := 1) rfl
      have b2 := R7.out.cell_of (i := 2) rfl
      have b3 := R7.out.cell_of (i := 3) rfl
      go_wp2_with fail
      go_loopw [10] (fun c wr => ∃ (j : Nat) (ys : List Bx4), l ≤ j ∧ j ≤ rt ∧ c = .int .i64 j ∧ ys = putRow (fun c => PX (l + c) i) (i * wd + l) (j - l) (putRows PX wd l m tp (i - tp) cs) ∧ Has wr w.heap.size 118 4 (.slice (some ⟨g, 0, none⟩) cs.length cap8) cs.length (ys.flatMap bxC) ∧ Row wr w.heap.size 37 [.int .i64 wd, .int .i64 ht, .slice A cs.length cap] ∧ Row wr (w.heap.size + 1) 42 [.int .i64 wd, .int .i64 ht, .slice As fs.length scap] ∧ Row wr (w.heap.size + 1 + 1) 37 [.int .i64 0, .int .i64 0, .slice none 0 0] ∧ Row wr w1.heap.size 122 [.int .i64 l, .int .i64 tp, .int .i64 rt, .int .i64 bt] ∧ Below w.heap.size w wr) (fun c _ => rt - (intOf c).toNat)
      case atStart => exact ⟨l, xs, Nat.le_refl _, by omega, rfl, by rw [Nat.sub_self]; exact Hxs.out, O.out, R3.out, R4.out, R6.out, R7.out, E.out⟩
      case round =>
        obtain ⟨j, ys, hj1, hj2, rfl, hys, hor, hr3, hr4, hr6, hr7, hbw⟩ := hrel
        clear b0 b1 b2 b3
        clear O E R3 R4 R6 R7
        have O := Lib.hid hor
        have E := Lib.hid hbw
        have R3 := Lib.hid hr3
        have R4 := Lib.hid hr4
        have R6 := Lib.hid hr6
        have R7 := Lib.hid hr7
        have hGs : w.heap.size ≤ wr.heap.size := hbw.size
        have Hys := Lib.hid hys
        clear hor hbw hys hr3 hr4 hr6 hr7
        by_cases hlk : j < rt
        · have hlkI : decide ((j : Int) < (rt : Int)) = true := by simp; omega
          obtain ⟨J, hJ⟩ : ∃ J, i * wd = J := ⟨_, rfl⟩
          obtain ⟨k, hk⟩ : ∃ k, J + j = k := ⟨_, rfl⟩
          have hkl : k < cs.length := by rw [Hlen.out, ← hk, ← hJ]; exact pix_at (by omega) (by omega)
          have hk144 : k ≤ 144 := by omega
          have hJ144 : J ≤ 144 := by omega
          have Hn : Hid (ys.set k (PX j i) = putRow (fun c => PX (l + c) i) (i * wd + l) (j + 1 - l) (putRows PX wd l m tp (i - tp) cs)) := Lib.hid (by rw [Hys.out, ← hk, hJ]; exact row_next PX J l i j _ hj1)
          have KC := Lib.hid (fun Wd (hW : Fls Wd As fs) => c_spixel wd ht As scap fs j i Wd hW Hv.out h4 (inB_iff.2 (by omega)) (inB_iff.2 (by omega)))
          have hq : pixL fs (j : Int) (i : Int) = PX j i := hPX j i
          rw [hq] at KC
          generalize PX j i = q at *
          have g1 : IntKind.i64.wrap ((i : Int) * (wd : Int)) = (J : Int) := by rw [← Int.natCast_mul, hJ]; exact IntWalk.i64_in _ (by omega)
          have g2 : IntKind.i64.wrap ((J : Int) + (j : Int)) = (k : Int) := by rw [← hk, Int.natCast_add]; exact IntWalk.i64_in _ (by omega)
          have g3 : (k : Int) < (cs.length : Int) := by omega
          have g4 : (0 : Int) ≤ (k : Int) := by omega
          clear hJ hk hq
          have s0 := R4.out.cell_of (i := 0) rfl
          have s1 := R4.out.cell_of (i := 1) rfl
          have s2 := R4.out.cell_of (i := 2) rfl
          have b0 := R7.out.cell_of (i := 0) rfl
          have b1 := R7.out.cell_of (i := 1) rfl
          have b2 := R7.out.cell_of (i := 2) rfl
          have b3 := R7.out.cell_of (i := 3) rfl
          go_wp2_with fail
          refine wp_region_calm [0,1,2,3,4,5,6,7,8,9] [10,11,12] (by kernel_rfl) (by kernel_rfl) ?_
          iterate 10 ((refine calm_yes rfl rfl (fun w' hC => (by have s0 := hC.cell s0; have s1 := hC.cell s1; have s2 := hC.cell s2; go_simp; rfl)) (fun K hK => ?_); go_simp; refine hK _ ?_; clear hK K))
          refine calm_nil (fun wa hCa => ?_)
          clear s0 s1 s2 b0 b1 b2 b3
          have Ea := ext_cls hCa
          refine late_fn rfl rfl rfl Tryz.func69 (by kernel_rfl) rfl (by go_simp) (fun wb hxb K hK => (KC.out wb (PW.out.ext flR_stab (Ext.trans (Ext.trans E.out Ea) hxb))).mono ?_)
          rintro e wc ⟨rfl, hb⟩
          refine ⟨_, rfl, hK _ _ ⟨fun _ => Cls.ext (Cls.ext hCa hxb) hb, ?_⟩⟩
          clear hK K
          refine late_free (by kernel_rfl) rfl rfl (fun wi hxi K hK => ?_)
          go_simp
          refine hK _ _ ?_
          clear hK K
          refine late_free (by kernel_rfl) rfl rfl (fun wf hxf K hK => ?_)
          have Ex := Ext.trans (Ext.trans Ea hxb) (Ext.trans (Ext.trans hb hxi) hxf)
          have Of := own_ext O.out Ex
          obtain ⟨o0, e0⟩ : ∃ u, wf.cell? ⟨g, k * 4, none⟩ = some u := ⟨_, by rw [Of.cellAt _ (by omega)]; exact List.getElem?_eq_getElem (by rw [Of.1]; omega)⟩
          obtain ⟨o1, e1⟩ : ∃ u, wf.cell? ⟨g, k * 4 + 1, none⟩ = some u := ⟨_, by rw [Of.cellAt _ (by omega)]; exact List.getElem?_eq_getElem (by rw [Of.1]; omega)⟩
          obtain ⟨o2, e2⟩ : ∃ u, wf.cell? ⟨g, k * 4 + 2, none⟩ = some u := ⟨_, by rw [Of.cellAt _ (by omega)]; exact List.getElem?_eq_getElem (by rw [Of.1]; omega)⟩
          obtain ⟨o3, e3⟩ : ∃ u, wf.cell? ⟨g, k * 4 + 3, none⟩ = some u := ⟨_, by rw [Of.cellAt _ (by omega)]; exact List.getElem?_eq_getElem (by rw [Of.1]; omega)⟩
          have f0 := Of.frozenAt (k * 4)
          have f1 := Of.frozenAt (k * 4 + 1)
          have f2 := Of.frozenAt (k * 4 + 2)
          have f3 := Of.frozenAt (k * 4 + 3)
          go_simp
          refine hK _ _ ?_
          clear hK K e0 e1 e2 e3 f0 f1 f2 f3
          refine late_nil (fun wz hxz => ?_)
          have hQ := Of.putQ k q
          have O2 := Lib.hid (own_ext hQ.1 hxz)
          have hzf : w.heap.size ≤ wf.heap.size := Nat.le_trans hz0 (Nat.le_trans hGs Ex.size)
          have E2 : Hid (Below w.heap.size w wz) := Lib.hid (Ext.trans (own_below (Ext.trans E.out Ex) (Of.rebase (Nat.le_refl _)) hQ.2 hzf) hxz)
          have R32 := Lib.hid (((R3.out.ext Ex).grownNe Of (by decide) hQ.2).ext hxz)
          have R42 := Lib.hid (((R4.out.ext Ex).grownNe Of (by decide) hQ.2).ext hxz)
          have R62 := Lib.hid (((R6.out.ext Ex).grownNe Of (by decide) hQ.2).ext hxz)
          have R72 := Lib.hid (((R7.out.ext Ex).grownNe Of (by decide) hQ.2).ext hxz)
          clear hQ hxz hxf hxi hb hxb hCa Ea Ex Of
          go_wp2
          go_roundw
          case rel => exact ⟨j + 1, _, by omega, by omega, by go_num, Hn.out, O2.out, R32.out, R42.out, R62.out, R72.out, E2.out⟩
          case measure => simp [intOf]; omega
        · obtain rfl : j = rt := by omega
          have hlkI : decide ((j : Int) < (j : Int)) = false := by simp
          have Hf : Hid (ys = putRows PX wd l m tp (i + 1 - tp) cs) := Lib.hid (by rw [Hys.out, show j - l = m by omega]; exact rows_next PX wd l m tp i cs hi1)
          have b0 := R7.out.cell_of (i := 0) rfl
          have b1 := R7.out.cell_of (i := 1) rfl
          have b2 := R7.out.cell_of (i := 2) rfl
          have b3 := R7.out.cell_of (i := 3) rfl
          go_wp2
          go_roundw
          case rel => exact ⟨i + 1, ys, by omega, by omega, by go_num, Hf.out, O.out, R3.out, R4.out, R6.out, R7.out, E.out⟩
          case measure => simp [intOf]; omega
    · obtain rfl : i = bt := by omega
      have hltI : decide ((i : Int) < (i : Int)) = false := by simp
      have Hf : Hid (xs = M) := Lib.hid (by rw [Hxs.out, HP.out, show i - tp = n by omega])
      have k0 := R3.out.cell_of (i := 0) rfl
      have k1 := R3.out.cell_of (i := 1) rfl
      have k2 := R3.out.cell_of (i := 2) rfl
      have r0 := R6.out.cell_of (i := 0) rfl
      have zr0 := R6.out.frozen 0
      have r1 := R6.out.cell_of (i := 1) rfl
      have zr1 := R6.out.frozen 1
      have r2 := R6.out.cell_of (i := 2) rfl
      have zr2 := R6.out.frozen 2
      have b0 := R7.out.cell_of (i := 0) rfl
      have b1 := R7.out.cell_of (i := 1) rfl
      have b2 := R7.out.cell_of (i := 2) rfl
      have b3 := R7.out.cell_of (i := 3) rfl
      go_wp2
      clear k0 k1 k2 r0 zr0 r1 zr1 r2 zr2 b0 b1 b2 b3
      refine gen_post (fun Wd hW => ?_)
      have hg2 : wr.grownBy Wd (some (w.heap.size + 1 + 1)) := by rw [hW]; exact sets3 wr _ 0 _ _ _
      have D := R6.out
      have D2 : Row Wd (w.heap.size + 1 + 1) 37 [.int .i64 wd, .int .i64 ht, .slice (some ⟨g, 0, none⟩) cs.length cap8] := by
        rw [hW]; exact ((D.set_ 0 _).set_ 1 _).set_ 2 _
      have y0 := D2.cell_of (i := 0) rfl
      have y1 := D2.cell_of (i := 1) rfl
      have y2 := D2.cell_of (i := 2) rfl
      have O9 := O.out.keptB D (by decide) hg2
      have E9 := below_set E.out hg2 (by omega) hGs
      exact bodyPost_ret (v := frV wd ht (some ⟨g, 0, none⟩) cs.length cap8) (by simp [results, Tryz.results33, go_sem, y0, y1, y2]) rfl
        ⟨_, _, rfl, by rw [← Hf.out]; exact O9, E9⟩
end Go.Proofs.YtagmnbphbakikaaGreat
