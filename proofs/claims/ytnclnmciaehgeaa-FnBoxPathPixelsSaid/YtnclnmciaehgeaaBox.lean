/-
  Boxes: the walks.
-/
import Derived.Test.YtnclnmciaehgeaaShape2
import Derived.Test.YtnclnmciaehgeaaOpen
namespace Go.Proofs.Ytnclnmciaehgeaa
open Go Go.RowKit Reg
attribute [local go_sem] calmAt calmUpon
abbrev bxV (b : Bx) : Value := .agg #[.int .i64 b.1, .int .i64 b.2.1, .int .i64 b.2.2.1, .int .i64 b.2.2.2]
def vbxB (b : Bx) : Bool := decide ((-1000 ≤ b.1 ∧ b.1 ≤ b.2.2.1 ∧ b.2.2.1 ≤ 1000) ∧ (-1000 ≤ b.2.1 ∧ b.2.1 ≤ b.2.2.2 ∧ b.2.2.2 ≤ 1000))
set_option maxHeartbeats 1000000 in
theorem c_validBox (l t r b : Int) (w : World) : Calls Try.prog 101 #[bxV (l, t, r, b)] w fun e w' => e = .returned (.bool (vbxB (l, t, r, b))) ∧ Below w.heap.size w w' := by
  unfold bxV
  go_enter Try.func101, Try.ntmps101
  go_wp2_with (go_at_call 71; refine (c_inRange _ _ _ _).mono ?_; rintro e w' ⟨rfl, rfl⟩)
  all_goals (go_ret; exact ⟨ret_bb (by rw [Bool.eq_iff_iff]; simp_all [vbxB, inB] <;> omega), (by repeat (first | exact Below.refl _ _ | assumption | refine Below.drew ?_ | refine Below.alloc ?_ (by first | exact Nat.le_refl _ | omega | (simp; done) | (simp; omega)) _ | refine Below.setCell ?_ (by first | exact Nat.le_refl _ | omega | (simp; done) | (simp; omega)) _))⟩)
set_option maxHeartbeats 1000000 in
theorem c_isEmpty (l t r b : Int) (w : World) : Calls Try.prog 102 #[bxV (l, t, r, b)] w fun e w' => e = .returned (.bool (decide (l = r ∨ t = b))) ∧ Below w.heap.size w w' := by
  unfold bxV
  go_enter Try.func102, Try.ntmps102
  go_wp2
  all_goals (go_ret; exact ⟨ret_bb (by rw [Bool.eq_iff_iff]; simp_all <;> omega), (by repeat (first | exact Below.refl _ _ | assumption | refine Below.drew ?_ | refine Below.alloc ?_ (by first | exact Nat.le_refl _ | omega | (simp; done) | (simp; omega)) _ | refine Below.setCell ?_ (by first | exact Nat.le_refl _ | omega | (simp; done) | (simp; omega)) _))⟩)
set_option maxHeartbeats 1000000 in
theorem c_boxvalid (l t r b : Int) (w : World) : Calls Try.prog 99 #[bxV (l, t, r, b)] w fun e w' => e = .returned (.bool (vbxB (l, t, r, b))) ∧ Below w.heap.size w w' := by
  unfold bxV
  go_enter Try.func99, Try.ntmps99
  go_wp2_with (go_at_call 69; refine (c_isUnit _ _).mono ?_; rintro e w' ⟨rfl, rfl⟩)
  all_goals (go_ret; exact ⟨ret_bb (by rw [Bool.eq_iff_iff]; simp_all [vbxB, inB] <;> omega), (by repeat (first | exact Below.refl _ _ | assumption | refine Below.drew ?_ | refine Below.alloc ?_ (by first | exact Nat.le_refl _ | omega | (simp; done) | (simp; omega)) _ | refine Below.setCell ?_ (by first | exact Nat.le_refl _ | omega | (simp; done) | (simp; omega)) _))⟩)
set_option maxHeartbeats 1000000 in
theorem c_boxempty (l t r b : Int) (w : World) : Calls Try.prog 100 #[bxV (l, t, r, b)] w fun e w' => e = .returned (.bool (decide (r ≤ l ∨ b ≤ t))) ∧ Below w.heap.size w w' := by
  unfold bxV
  go_enter Try.func100, Try.ntmps100
  go_wp2
  all_goals (go_ret; exact ⟨ret_bb (by rw [Bool.eq_iff_iff]; simp_all <;> omega), (by repeat (first | exact Below.refl _ _ | assumption | refine Below.drew ?_ | refine Below.alloc ?_ (by first | exact Nat.le_refl _ | omega | (simp; done) | (simp; omega)) _ | refine Below.setCell ?_ (by first | exact Nat.le_refl _ | omega | (simp; done) | (simp; omega)) _))⟩)
/-- A list of verbs of one's own, and a word. -/
def RetVb (w w' : World) (e : Ending) (r : List Vb × Bool) : Prop :=
  ∃ A cap ss, e = .returned (.tuple #[.slice A r.1.length cap, .bool r.2]) ∧ OVb w' w.heap.size 33 31 (.slice A r.1.length cap) r.1 ss ∧ Below w.heap.size w w'
theorem RetVb.none {w w' : World} {r : List Vb × Bool} (hr : r = ([], false)) (hb : Below w.heap.size w w') : RetVb w w' (.returned (.tuple #[.slice none 0 0, .bool false])) r := by
  subst hr; exact ⟨Option.none, 0, [], rfl, OVb.nil _ _ _ _, hb⟩
theorem RetVb.some {w w1 w' : World} {r : List Vb × Bool} {A : Option Addr} {n cap : Nat} {vs : List Vb} {ss : List Value} (hr : r = (vs, true)) (ho : OVb w' w1.heap.size 33 31 (.slice A n cap) vs ss) (hn : n = vs.length) (h1 : Ext w w1) (h2 : Ext w1 w') :
    RetVb w w' (.returned (.tuple #[.slice A n cap, .bool true])) r := by
  subst hr hn; exact ⟨A, cap, ss, rfl, ho.rebase h1.size, Ext.trans h1 h2⟩
def boxPts (b : Bx) : List Pt := [(b.1, b.2.1), (b.2.2.1, b.2.1), (b.2.2.1, b.2.2.2), (b.1, b.2.2.2)]
def boxOk (b : Bx) : Bool := vbxB b && decide (b.1 < b.2.2.1 ∧ b.2.1 < b.2.2.2)
def pathL (ok : Bool) (ps : List Pt) : List Vb × Bool := if ok then (polyV ps ++ [(4, [])], true) else ([], false)
theorem pathL_small (ok : Bool) (ps : List Pt) : ∀ v ∈ (pathL ok ps).1, v.2.length ≤ 1 := by
  intro v hv
  unfold pathL at hv
  cases ok
  · simp at hv
  · simp only [if_true, List.mem_append, List.mem_singleton] at hv
    rcases hv with hv | rfl
    · obtain ⟨x, _, rfl⟩ := List.mem_map.1 hv; simp
    · simp
theorem pathL_len (ok : Bool) (ps : List Pt) : (pathL ok ps).1.length ≤ ps.length + 1 := by
  unfold pathL
  cases ok <;> simp [polyV_len]
theorem pts_new (w : World) (e : TypeId) (ps : List Pt) {g : Nat} (hg : g = w.heap.size) {cs : Array Value} (hcs : cs = (ps.flatMap ptC).toArray) : Pts (w.alloc (.cells cs e)) (some ⟨g, 0, none⟩) ps := by
  subst hg hcs
  exact Row.in_ (rest := []) (enc := ptC) ptC_len (by simpa using Row.new w e (ps.flatMap ptC)) (fun _ _ => rfl)
set_option maxHeartbeats 1000000 in
theorem c_sBoxPath (l t r b : Int) (w : World) : Calls Try.prog 49 #[bxV (l, t, r, b)] w fun e w' => RetVb w w' e (pathL (boxOk (l, t, r, b)) (boxPts (l, t, r, b))) := by
  unfold bxV
  go_enter Try.func49, Try.ntmps49
  go_wp2_with (first | (go_at_call 101; (with_reducible refine (c_validBox l t r b _).mono ?_); rintro e w1 ⟨rfl, hb1⟩; obtain ⟨hc1, hf1⟩ := bcell hb1; have hz1 : w.heap.size < w1.heap.size := by have := hb1.size; (try simp at this); omega) | (go_at_call 102; (with_reducible refine (c_isEmpty l t r b _).mono ?_); rintro e w2 ⟨rfl, hb2⟩; obtain ⟨hc2, hf2⟩ := bcell hb2; have hz2 : w.heap.size < w2.heap.size := by have := hb2.size; (try simp at this); omega))
  · go_ret2
    exact RetVb.none (by have hv : vbxB (l, t, r, b) = false := by assumption
                         simp [pathL, boxOk, hv]) (Ext.trans (by repeat (first | exact Below.refl _ _ | assumption | refine Below.drew ?_ | refine Below.alloc ?_ (by first | exact Nat.le_refl _ | omega | (simp; done) | (simp; omega)) _ | refine Below.setCell ?_ (by first | exact Nat.le_refl _ | omega | (simp; done) | (simp; omega)) _)) hb1)
  · go_ret2
    exact RetVb.none (by have hv : l = r ∨ t = b := by assumption
                         have : boxOk (l, t, r, b) = false := by simp only [boxOk, Bool.and_eq_false_iff, decide_eq_false_iff_not]; right; omega
                         simp [pathL, this]) (Ext.trans (Ext.trans (by repeat (first | exact Below.refl _ _ | assumption | refine Below.drew ?_ | refine Below.alloc ?_ (by first | exact Nat.le_refl _ | omega | (simp; done) | (simp; omega)) _ | refine Below.setCell ?_ (by first | exact Nat.le_refl _ | omega | (simp; done) | (simp; omega)) _)) hb1) hb2)
  · have h0 : boxOk (l, t, r, b) = true := by
      have h1 : vbxB (l, t, r, b) = true := by assumption
      have h2 : ¬l = r ∧ ¬t = b := by assumption
      simp only [boxOk, Bool.and_eq_true, decide_eq_true_eq]
      simp only [vbxB, decide_eq_true_eq] at h1
      simp only [vbxB, decide_eq_true_eq]
      omega
    have H0 := Lib.hid h0
    have Hx : Hid (Ext w w2) := Lib.hid (Ext.trans (Ext.trans (by repeat (first | exact Below.refl _ _ | assumption | refine Below.drew ?_ | refine Below.alloc ?_ (by first | exact Nat.le_refl _ | omega | (simp; done) | (simp; omega)) _ | refine Below.setCell ?_ (by first | exact Nat.le_refl _ | omega | (simp; done) | (simp; omega)) _)) hb1) hb2)
    clear hb1 hb2 hc1 hf1 hc2 hf2 h0
    refine (c_poly _ 4 (boxPts (l, t, r, b)) _ (pts_new _ _ _ (by rfl) (by rfl)) (by simp [boxPts])).mono ?_
    rintro e w3 ⟨A3, cap3, ss3, rfl, ho3, hb3⟩
    have Ho := Lib.hid ho3
    have Hb := Lib.hid hb3
    clear ho3 hb3
    go_wp2
    go_ret2
    exact RetVb.some (w1 := w2.alloc _) (by rw [H0.out]; rfl) Ho.out (by simp [polyV_len]) (Ext.trans Hx.out (by repeat (first | exact Below.refl _ _ | assumption | refine Below.drew ?_ | refine Below.alloc ?_ (by first | exact Nat.le_refl _ | omega | (simp; done) | (simp; omega)) _ | refine Below.setCell ?_ (by first | exact Nat.le_refl _ | omega | (simp; done) | (simp; omega)) _))) Hb.out
set_option maxHeartbeats 1000000 in
theorem c_iBoxPath (l t r b : Int) (w : World) : Calls Try.prog 48 #[bxV (l, t, r, b)] w fun e w' => RetVb w w' e (pathL (boxOk (l, t, r, b)) (boxPts (l, t, r, b))) := by
  unfold bxV
  go_enter Try.func48, Try.ntmps48
  go_wp2_with (first | (go_at_call 99; (with_reducible refine (c_boxvalid l t r b _).mono ?_); rintro e w1 ⟨rfl, hb1⟩; obtain ⟨hc1, hf1⟩ := bcell hb1; have hz1 : w.heap.size < w1.heap.size := by have := hb1.size; (try simp at this); omega) | (go_at_call 100; (with_reducible refine (c_boxempty l t r b _).mono ?_); rintro e w2 ⟨rfl, hb2⟩; obtain ⟨hc2, hf2⟩ := bcell hb2; have hz2 : w.heap.size < w2.heap.size := by have := hb2.size; (try simp at this); omega))
  · go_ret2
    exact RetVb.none (by have hv : vbxB (l, t, r, b) = false := by assumption
                         simp [pathL, boxOk, hv]) (Ext.trans (by repeat (first | exact Below.refl _ _ | assumption | refine Below.drew ?_ | refine Below.alloc ?_ (by first | exact Nat.le_refl _ | omega | (simp; done) | (simp; omega)) _ | refine Below.setCell ?_ (by first | exact Nat.le_refl _ | omega | (simp; done) | (simp; omega)) _)) hb1)
  · go_ret2
    exact RetVb.none (by have hv : r ≤ l ∨ b ≤ t := by assumption
                         have : boxOk (l, t, r, b) = false := by simp only [boxOk, Bool.and_eq_false_iff, decide_eq_false_iff_not]; right; omega
                         simp [pathL, this]) (Ext.trans (Ext.trans (by repeat (first | exact Below.refl _ _ | assumption | refine Below.drew ?_ | refine Below.alloc ?_ (by first | exact Nat.le_refl _ | omega | (simp; done) | (simp; omega)) _ | refine Below.setCell ?_ (by first | exact Nat.le_refl _ | omega | (simp; done) | (simp; omega)) _)) hb1) hb2)
  · have h0 : boxOk (l, t, r, b) = true := by
      have h1 : vbxB (l, t, r, b) = true := by assumption
      have h2 : l < r ∧ t < b := by assumption
      simp only [boxOk, Bool.and_eq_true, decide_eq_true_eq]
      simp only [vbxB, decide_eq_true_eq] at h1
      simp only [vbxB, decide_eq_true_eq]
      omega
    have H0 := Lib.hid h0
    have Hx : Hid (Ext w w2) := Lib.hid (Ext.trans (Ext.trans (by repeat (first | exact Below.refl _ _ | assumption | refine Below.drew ?_ | refine Below.alloc ?_ (by first | exact Nat.le_refl _ | omega | (simp; done) | (simp; omega)) _ | refine Below.setCell ?_ (by first | exact Nat.le_refl _ | omega | (simp; done) | (simp; omega)) _)) hb1) hb2)
    clear hb1 hb2 hc1 hf1 hc2 hf2 h0
    refine (c_polygon _ 4 (boxPts (l, t, r, b)) _ (pts_new _ _ _ (by rfl) (by rfl)) (by simp [boxPts])).mono ?_
    rintro e w3 ⟨A3, ss3, rfl, ho3, hb3⟩
    have Ho := Lib.hid ho3
    have Hb := Lib.hid hb3
    clear ho3 hb3
    go_wp2
    go_ret2
    exact RetVb.some (w1 := w2.alloc _) (by rw [H0.out]; rfl) Ho.out (by simp [polyV_len]) (Ext.trans Hx.out (by repeat (first | exact Below.refl _ _ | assumption | refine Below.drew ?_ | refine Below.alloc ?_ (by first | exact Nat.le_refl _ | omega | (simp; done) | (simp; omega)) _ | refine Below.setCell ?_ (by first | exact Nat.le_refl _ | omega | (simp; done) | (simp; omega)) _))) Hb.out
end Go.Proofs.Ytnclnmciaehgeaa
