/-
  Several texts in one: Color, Stops.
-/
import Derived.Test.YtagmnbphbakikaaGreatBoxOf
import Derived.Test.YtagmnbphbakikaaGreatMg2
namespace Go.Proofs.YtagmnbphbakikaaGreat
open Go Go.RowKit Reg
attribute [local go_sem] calmAt calmUpon
def coB (c : Bx4) : Bool := decide ((0 ≤ c.2.2.2 ∧ c.2.2.2 ≤ 255) ∧ (0 ≤ c.1 ∧ c.1 ≤ c.2.2.2) ∧ (0 ≤ c.2.1 ∧ c.2.1 ≤ c.2.2.2) ∧ (0 ≤ c.2.2.1 ∧ c.2.2.1 ≤ c.2.2.2))
theorem coB_bd {c : Bx4} (h : coB c = true) : (0 ≤ c.1 ∧ c.1 ≤ 255) ∧ (0 ≤ c.2.1 ∧ c.2.1 ≤ 255) ∧ (0 ≤ c.2.2.1 ∧ c.2.2.1 ≤ 255) ∧ (0 ≤ c.2.2.2 ∧ c.2.2.2 ≤ 255) := by
  simp only [coB, decide_eq_true_eq] at h; omega
set_option maxHeartbeats 1000000 in
theorem c_ValidColor (c : Bx4) (w : World) : Calls Tryz.prog 155 #[bx4V c] w fun e w' => e = .returned (.bool (coB c)) ∧ Below w.heap.size w w' := by
  obtain ⟨r, g, b, a⟩ := c
  go_enter Tryz.func155, Tryz.ntmps155
  go_wp2_with (go_at_call 77; (with_reducible refine (c_in _ _ _ _).mono ?_); rintro e w' ⟨rfl, rfl⟩)
  all_goals (go_ret; exact ⟨ret_bb (by rw [Bool.eq_iff_iff]; simp_all [coB, inB] <;> omega), (by repeat (first | exact Below.refl _ _ | assumption | refine Below.drew ?_ | refine Below.alloc ?_ (by first | exact Nat.le_refl _ | omega | (simp; done) | (simp; omega)) _ | refine Below.setCell ?_ (by first | exact Nat.le_refl _ | omega | (simp; done) | (simp; omega)) _))⟩)
set_option maxHeartbeats 1000000 in
theorem c_allIn (A : Option Addr) (cap : Nat) (ns : List Int) (lo hi : Int) (w : World) (h : Ints w A ns) (hl : ns.length ≤ 1000000000) :
    Calls Tryz.prog 173 #[.slice A ns.length cap, .int .i64 lo, .int .i64 hi] w fun e w' => e = .returned (.bool (ns.all fun n => inB n lo hi)) ∧ w = w' := by
  go_enter Tryz.func173, Tryz.ntmps173
  go_wp2
  go_loop [7] (fun i => ∃ k : Nat, k ≤ ns.length ∧ i = .int .i64 k ∧ (ns.take k).all (fun n => inB n lo hi) = true) (fun i => ns.length - (intOf i).toNat)
  case atStart => exact ⟨0, Nat.zero_le _, rfl, by simp⟩
  case round =>
    obtain ⟨k, hk, rfl, hal⟩ := hrel
    have hal' := Lib.hid hal
    clear hal
    by_cases hlt : k < ns.length
    · obtain ⟨b, off, rfl, _hb, hc⟩ := h.ints (by omega)
      have cx := hc k hlt
      clear h hc
      by_cases hv : inB ns[k] lo hi = true
      · have Hv := Lib.hid hv
        go_wp2_with (go_at_call 28; refine (c_inRange ns[k] lo hi _).mono ?_; rw [hv]; rintro e w1 ⟨rfl, rfl⟩)
        go_round
        case rel => exact ⟨k+1, by omega, by go_num, all_take_succ hal'.out hlt Hv.out⟩
        case measure => simp [intOf]; omega
      · simp only [Bool.not_eq_true] at hv
        have Hv := Lib.hid hv
        go_wp2_with (go_at_call 28; refine (c_inRange ns[k] lo hi _).mono ?_; rw [hv]; rintro e w1 ⟨rfl, rfl⟩)
        go_ret
        exact ⟨ret_bb (all_false_of hlt Hv.out).symm, rfl⟩
    · have hk' : k = ns.length := by omega
      have hall := Lib.hid (all_of_take hal'.out hk')
      clear h hk'
      go_wp2
      go_ret
      exact ⟨ret_bb hall.out.symm, rfl⟩
theorem ints_new' (w : World) (e : TypeId) (ns : List Int) {g : Nat} (hg : g = w.heap.size) {cs : Array Value} (hcs : cs = (ns.flatMap intC).toArray) : Ints (w.alloc (.cells cs e)) (some ⟨g, 0, none⟩) ns := by
  subst hg hcs
  exact Row.in_ (rest := []) (enc := intC) (fun _ => rfl) (by simpa using Row.new w e (ns.flatMap intC)) (fun _ _ => rfl)
set_option maxHeartbeats 1000000 in
theorem c_validColor (c : Bx4) (w : World) : Calls Tryz.prog 140 #[bx4V c] w fun e w' => e = .returned (.bool (coB c)) ∧ Below w.heap.size w w' := by
  obtain ⟨r, g, b, a⟩ := c
  obtain ⟨d, hd⟩ : ∃ d, coB (r, g, b, a) = d := ⟨_, rfl⟩
  rw [hd]
  have Hd := Lib.hid hd
  clear hd
  by_cases ha : inB a 0 255 = true
  · have Ha := Lib.hid ha
    go_enter Tryz.func140, Tryz.ntmps140
    go_wp2_with (first | (go_at_call 28; refine (c_inRange a 0 255 _).mono ?_; rw [ha]; rintro e w1 ⟨rfl, rfl⟩) | (go_at_call 173; refine (c_allIn _ 3 [r, g, b] 0 a _ (ints_new' _ _ _ (by simp) (by rfl)) (by simp)).mono ?_; rintro e w1 ⟨rfl, rfl⟩))
    go_ret
    exact ⟨ret_bb (by rw [← Hd.out, Bool.eq_iff_iff]; have := inB_iff.1 Ha.out; simp [coB, inB]; omega), (by repeat (first | exact Below.refl _ _ | assumption | refine Below.drew ?_ | refine Below.alloc ?_ (by first | exact Nat.le_refl _ | omega | (simp; done) | (simp; omega)) _ | refine Below.setCell ?_ (by first | exact Nat.le_refl _ | omega | (simp; done) | (simp; omega)) _))⟩
  · simp only [Bool.not_eq_true] at ha
    have Ha := Lib.hid ha
    go_enter Tryz.func140, Tryz.ntmps140
    go_wp2_with (go_at_call 28; refine (c_inRange a 0 255 _).mono ?_; rw [ha]; rintro e w1 ⟨rfl, rfl⟩)
    go_ret
    exact ⟨ret_bb (by rw [← Hd.out]; have := Ha.out; simp [inB] at this; symm; simp [coB]; omega), (by repeat (first | exact Below.refl _ _ | assumption | refine Below.drew ?_ | refine Below.alloc ?_ (by first | exact Nat.le_refl _ | omega | (simp; done) | (simp; omega)) _ | refine Below.setCell ?_ (by first | exact Nat.le_refl _ | omega | (simp; done) | (simp; omega)) _))⟩
set_option maxRecDepth 100000 in
set_option maxHeartbeats 4000000 in
theorem c_each (f : FuncId) (fn : Func) (capt : Array Value) (hf : Tryz.prog.funcs[f]? = some fn) (hn : (fn.name == "runtime.NumGoroutine") = false) (hb : fn.body.isNone = false) (G : Int → Int → Int) (a b : Bx4) (w : World)
    (K : ∀ W, Ext w W → ∀ x y, ((x = a.1 ∧ y = b.1) ∨ (x = a.2.1 ∧ y = b.2.1) ∨ (x = a.2.2.1 ∧ y = b.2.2.1) ∨ (x = a.2.2.2 ∧ y = b.2.2.2)) → Calls Tryz.prog f (#[.int .i64 x, .int .i64 y] ++ capt) W fun e w' => e = .returned (.int .i64 (G x y)) ∧ W = w') :
    Calls Tryz.prog 156 #[bx4V a, bx4V b, .func (.func f) #[] capt] w fun e w' => e = .returned (bx4V (G a.1 b.1, G a.2.1 b.2.1, G a.2.2.1 b.2.2.1, G a.2.2.2 b.2.2.2)) ∧ Below w.heap.size w w' := by
  obtain ⟨a1, a2, a3, a4⟩ := a
  obtain ⟨b1, b2, b3, b4⟩ := b
  dsimp only at K
  have K := Lib.hid K
  have Hf := Lib.hid (And.intro hf (And.intro hn hb))
  clear hf hn hb
  go_enter Tryz.func156, Tryz.ntmps156
  go_wp2_with fail
  generalize hW : ((w.alloc (.cells #[.int .i64 a1, .int .i64 a2, .int .i64 a3, .int .i64 a4] 118)).alloc (.cells #[.int .i64 b1, .int .i64 b2, .int .i64 b3, .int .i64 b4] 118)).alloc (.cells #[.int .i64 0, .int .i64 0, .int .i64 0, .int .i64 0] 118) = wa
  have EA : Hid (Ext w wa) := Lib.hid (by rw [← hW]; exact (by repeat (first | exact Below.refl _ _ | assumption | refine Below.drew ?_ | refine Below.alloc ?_ (by first | exact Nat.le_refl _ | omega | (simp; done) | (simp; omega)) _ | refine Below.setCell ?_ (by first | exact Nat.le_refl _ | omega | (simp; done) | (simp; omega)) _)))
  have A1 : Row wa w.heap.size 118 [.int .i64 a1, .int .i64 a2, .int .i64 a3, .int .i64 a4] := by rw [← hW]; exact ((Row.new w 118 [.int .i64 a1, .int .i64 a2, .int .i64 a3, .int .i64 a4]).alloc _).alloc _
  have A2 : Row wa (w.heap.size + 1) 118 [.int .i64 b1, .int .i64 b2, .int .i64 b3, .int .i64 b4] := by rw [← hW]; exact row_mid w _ _ 118 [.int .i64 b1, .int .i64 b2, .int .i64 b3, .int .i64 b4]
  have A3 : Row wa (w.heap.size + 2) 118 [.int .i64 0, .int .i64 0, .int .i64 0, .int .i64 0] := by
    rw [← hW]
    have := Row.new ((w.alloc (.cells #[.int .i64 a1, .int .i64 a2, .int .i64 a3, .int .i64 a4] 118)).alloc (.cells #[.int .i64 b1, .int .i64 b2, .int .i64 b3, .int .i64 b4] 118)) 118 [.int .i64 0, .int .i64 0, .int .i64 0, .int .i64 0]
    simpa using this
  clear hW
  have c0 := A1.cell_of (i := 0) rfl
  have c1 := A1.cell_of (i := 1) rfl
  have c2 := A1.cell_of (i := 2) rfl
  have c3 := A1.cell_of (i := 3) rfl
  have d0 := A2.cell_of (i := 0) rfl
  have d1 := A2.cell_of (i := 1) rfl
  have d2 := A2.cell_of (i := 2) rfl
  have d3 := A2.cell_of (i := 3) rfl
  have H3 := Lib.hid A3
  clear A1 A2 A3
  obtain ⟨hf, hn, hb⟩ := Hf.out
  refine wp_region_calm [0,1,2,3,4,5,6,7,8,9,10,11,12,13,14,15,16,17,18,19,20,21,22,23,24] [25] (by kernel_rfl) (by kernel_rfl) ?_
  iterate 5 ((refine calm_yes rfl rfl (fun w' hC => (by have c0 := hC.cell c0; have c1 := hC.cell c1; have c2 := hC.cell c2; have c3 := hC.cell c3; have d0 := hC.cell d0; have d1 := hC.cell d1; have d2 := hC.cell d2; have d3 := hC.cell d3; go_simp; rfl)) (fun K hK => ?_); go_simp; refine hK _ ?_; clear hK K))
  apply calm_clo (args := #[.int .i64 a1, .int .i64 b1] ++ capt) rfl rfl rfl rfl hf hn hb (by simp [go_sem])
  · exact (fun w' hC => ext_of_same (K.out w' (Ext.trans EA.out (Below.trans (Below.refl _ wa).drew hC)) a1 b1 (by simp)))
  intro K' hK; go_simp; refine hK _ ?_; clear hK K'
  iterate 5 ((refine calm_yes rfl rfl (fun w' hC => (by have c0 := hC.cell c0; have c1 := hC.cell c1; have c2 := hC.cell c2; have c3 := hC.cell c3; have d0 := hC.cell d0; have d1 := hC.cell d1; have d2 := hC.cell d2; have d3 := hC.cell d3; go_simp; rfl)) (fun K hK => ?_); go_simp; refine hK _ ?_; clear hK K))
  apply calm_clo (args := #[.int .i64 a2, .int .i64 b2] ++ capt) rfl rfl rfl rfl hf hn hb (by simp [go_sem])
  · exact (fun w' hC => ext_of_same (K.out w' (Ext.trans EA.out (Below.trans (Below.refl _ wa).drew hC)) a2 b2 (by simp)))
  intro K' hK; go_simp; refine hK _ ?_; clear hK K'
  iterate 5 ((refine calm_yes rfl rfl (fun w' hC => (by have c0 := hC.cell c0; have c1 := hC.cell c1; have c2 := hC.cell c2; have c3 := hC.cell c3; have d0 := hC.cell d0; have d1 := hC.cell d1; have d2 := hC.cell d2; have d3 := hC.cell d3; go_simp; rfl)) (fun K hK => ?_); go_simp; refine hK _ ?_; clear hK K))
  apply calm_clo (args := #[.int .i64 a3, .int .i64 b3] ++ capt) rfl rfl rfl rfl hf hn hb (by simp [go_sem])
  · exact (fun w' hC => ext_of_same (K.out w' (Ext.trans EA.out (Below.trans (Below.refl _ wa).drew hC)) a3 b3 (by simp)))
  intro K' hK; go_simp; refine hK _ ?_; clear hK K'
  iterate 5 ((refine calm_yes rfl rfl (fun w' hC => (by have c0 := hC.cell c0; have c1 := hC.cell c1; have c2 := hC.cell c2; have c3 := hC.cell c3; have d0 := hC.cell d0; have d1 := hC.cell d1; have d2 := hC.cell d2; have d3 := hC.cell d3; go_simp; rfl)) (fun K hK => ?_); go_simp; refine hK _ ?_; clear hK K))
  apply calm_clo (args := #[.int .i64 a4, .int .i64 b4] ++ capt) rfl rfl rfl rfl hf hn hb (by simp [go_sem])
  · exact (fun w' hC => ext_of_same (K.out w' (Ext.trans EA.out (Below.trans (Below.refl _ wa).drew hC)) a4 b4 (by simp)))
  intro K' hK; go_simp; refine hK _ ?_; clear hK K'
  (refine calm_yes rfl rfl (fun w' hC => (by go_simp; rfl)) (fun K hK => ?_); go_simp; refine hK _ ?_; clear hK K)
  clear hf hn hb c0 c1 c2 c3 d0 d1 d2 d3
  refine calm_nil (fun w2 hC2 => ?_)
  refine late_free (by kernel_rfl) rfl rfl (fun w3 hx3 K' hK => ?_)
  have E3 : Ext wa w3 := Ext.trans (ext_cls hC2) hx3
  have S3 := H3.out.ext E3
  have e0 := S3.cell_of (i := 0) rfl
  have e1 := S3.cell_of (i := 1) rfl
  have e2 := S3.cell_of (i := 2) rfl
  have e3 := S3.cell_of (i := 3) rfl
  have z0 := S3.frozen 0
  have z1 := S3.frozen 1
  have z2 := S3.frozen 2
  have z3 := S3.frozen 3
  go_simp
  refine hK _ _ ?_
  clear hK K'
  refine late_nil (fun w4 hx4 => ?_)
  have S4 := (((((S3.set_ 0 (.int .i64 (G a1 b1))).set_ 1 (.int .i64 (G a2 b2))).set_ 2 (.int .i64 (G a3 b3))).set_ 3 (.int .i64 (G a4 b4)))).ext hx4
  have B4 : Ext w w4 := Ext.trans (((((Ext.trans EA.out E3).setCell (by simp; omega) _).setCell (by simp; omega) _).setCell (by simp; omega) _).setCell (by simp; omega) _) hx4
  have g0 := S4.cell_of (i := 0) rfl
  have g1 := S4.cell_of (i := 1) rfl
  have g2 := S4.cell_of (i := 2) rfl
  have g3 := S4.cell_of (i := 3) rfl
  clear e0 e1 e2 e3 z0 z1 z2 z3 S3 E3 hx3 hx4 hC2
  go_wp2_with fail
  exact bodyPost_ret (v := bx4V (G a1 b1, G a2 b2, G a3 b3, G a4 b4)) (by simp [results, Tryz.results156, go_sem, g0, g1, g2, g3]) rfl ⟨rfl, B4⟩
def mixG (t x y : Int) : Int := rndL (x * (256 - t) + y * t) 256
def mixL (a b : Bx4) (t : Int) : Bx4 := (mixG t a.1 b.1, mixG t a.2.1 b.2.1, mixG t a.2.2.1 b.2.2.1, mixG t a.2.2.2 b.2.2.2)
theorem mul_nn_bd {x y X Y : Int} (h1 : 0 ≤ x) (h2 : x ≤ X) (h3 : 0 ≤ y) (h4 : y ≤ Y) : 0 ≤ x * y ∧ x * y ≤ X * Y :=
  ⟨Int.mul_nonneg h1 h3, Int.mul_le_mul h2 h4 h3 (by omega)⟩
set_option maxHeartbeats 1000000 in
theorem c_mix1 (x y t : Int) (g : Nat) (w : World) (hx : 0 ≤ x ∧ x ≤ 255) (hy : 0 ≤ y ∧ y ≤ 255) (ht : 0 ≤ t ∧ t ≤ 256) (hr : w.cell? ⟨g, 0, none⟩ = some (.int .i64 t)) :
    Calls Tryz.prog 193 (#[.int .i64 x, .int .i64 y] ++ #[.pointer (some ⟨g, 0, none⟩)]) w fun e w' => e = .returned (.int .i64 (mixG t x y)) ∧ w = w' := by
  obtain ⟨hx1, hx2⟩ := hx
  obtain ⟨hy1, hy2⟩ := hy
  obtain ⟨ht1, ht2⟩ := ht
  obtain ⟨p1, p2⟩ := mul_nn_bd hx1 hx2 (show 0 ≤ 256 - t by omega) (show 256 - t ≤ 256 by omega)
  obtain ⟨q1, q2⟩ := mul_nn_bd hy1 hy2 ht1 ht2
  show Calls Tryz.prog 193 #[.int .i64 x, .int .i64 y, .pointer (some ⟨g, 0, none⟩)] w _
  go_enter Tryz.func193, Tryz.ntmps193
  go_wp2_with fail
  refine (c_round (x * (256 - t) + y * t) 256 w (by decide) (by decide) (by omega) (by omega)).mono ?_; rintro e w' ⟨rfl, rfl⟩
  go_wp2
  go_ret
  exact ⟨rfl, rfl⟩
def mixOk (a b : Bx4) (t : Int) : Bool := coB a && coB b && inB t 0 256
def mixR (a b : Bx4) (t : Int) : Bx4 := if mixOk a b t then mixL a b t else (0, 0, 0, 0)
set_option maxRecDepth 100000 in
set_option maxHeartbeats 4000000 in
theorem c_MixColor (a b : Bx4) (t : Int) (w : World) (ha : coB a = true) (hb : coB b = true) (ht : 0 ≤ t ∧ t ≤ 256) :
    Calls Tryz.prog 183 #[bx4V a, bx4V b, .int .i64 t] w fun e w' => e = .returned (bx4V (mixL a b t)) ∧ Below w.heap.size w w' := by
  have Ba := Lib.hid (coB_bd ha)
  have Bb := Lib.hid (coB_bd hb)
  have Ha := Lib.hid ha
  have Hb := Lib.hid hb
  have Ht := Lib.hid ht
  have hin : inB t 0 256 = true := inB_iff.2 ht
  have Hin := Lib.hid hin
  obtain ⟨M, hM⟩ : ∃ M, mixL a b t = M := ⟨_, rfl⟩
  rw [hM]
  have HM := Lib.hid hM
  clear ha hb ht hin hM
  go_enter Tryz.func183, Tryz.ntmps183
  go_wp2_with fail
  generalize hW : (((w.alloc (.cells #[.int .i64 a.1, .int .i64 a.2.1, .int .i64 a.2.2.1, .int .i64 a.2.2.2] 118)).alloc (.cells #[.int .i64 b.1, .int .i64 b.2.1, .int .i64 b.2.2.1, .int .i64 b.2.2.2] 118)).alloc (.cells #[.int .i64 t] 3)).alloc (.cells #[.int .i64 0, .int .i64 0, .int .i64 0, .int .i64 0] 118) = wa
  have EA : Hid (Ext w wa) := Lib.hid (by rw [← hW]; exact (by repeat (first | exact Below.refl _ _ | assumption | refine Below.drew ?_ | refine Below.alloc ?_ (by first | exact Nat.le_refl _ | omega | (simp; done) | (simp; omega)) _ | refine Below.setCell ?_ (by first | exact Nat.le_refl _ | omega | (simp; done) | (simp; omega)) _)))
  have A1 : Row wa w.heap.size 118 (bxC a) := by rw [← hW]; exact (((Row.new w 118 (bxC a)).alloc _).alloc _).alloc _
  have A2 : Row wa (w.heap.size + 1) 118 (bxC b) := by rw [← hW]; exact (row_mid w _ _ 118 (bxC b)).alloc _
  have A3 : Row wa (w.heap.size + 2) 3 [.int .i64 t] := by
    rw [← hW]
    have := (Row.new ((w.alloc (.cells #[.int .i64 a.1, .int .i64 a.2.1, .int .i64 a.2.2.1, .int .i64 a.2.2.2] 118)).alloc (.cells #[.int .i64 b.1, .int .i64 b.2.1, .int .i64 b.2.2.1, .int .i64 b.2.2.2] 118)) 3 [.int .i64 t]).alloc (.cells #[.int .i64 0, .int .i64 0, .int .i64 0, .int .i64 0] 118)
    simpa using this
  have A4 : Row wa (w.heap.size + 3) 118 [.int .i64 0, .int .i64 0, .int .i64 0, .int .i64 0] := by
    rw [← hW]
    have := Row.new (((w.alloc (.cells #[.int .i64 a.1, .int .i64 a.2.1, .int .i64 a.2.2.1, .int .i64 a.2.2.2] 118)).alloc (.cells #[.int .i64 b.1, .int .i64 b.2.1, .int .i64 b.2.2.1, .int .i64 b.2.2.2] 118)).alloc (.cells #[.int .i64 t] 3)) 118 [.int .i64 0, .int .i64 0, .int .i64 0, .int .i64 0]
    simpa using this
  clear hW
  have H1 := Lib.hid A1
  have H2 := Lib.hid A2
  have H3 := Lib.hid A3
  have H4 := Lib.hid A4
  clear A1 A2 A3 A4
  refine (c_ValidColor a wa).mono ?_; rw [Ha.out]; rintro e w1 ⟨rfl, hb1⟩
  have E1 := Lib.hid hb1
  have G2 := H2.out.ext hb1
  have c0 := G2.cell_of (i := 0) rfl
  have c1 := G2.cell_of (i := 1) rfl
  have c2 := G2.cell_of (i := 2) rfl
  have c3 := G2.cell_of (i := 3) rfl
  clear hb1 G2
  go_wp2_with fail
  refine (c_ValidColor b w1).mono ?_; rw [Hb.out]; rintro e w2 ⟨rfl, hb2⟩
  have E2 := Lib.hid (Ext.trans E1.out hb2)
  clear hb2 c0 c1 c2 c3
  have G1 := H1.out.ext E2.out
  have G2 := H2.out.ext E2.out
  have G3 := H3.out.ext E2.out
  have c0 := G1.cell_of (i := 0) rfl
  have c1 := G1.cell_of (i := 1) rfl
  have c2 := G1.cell_of (i := 2) rfl
  have c3 := G1.cell_of (i := 3) rfl
  have d0 := G2.cell_of (i := 0) rfl
  have d1 := G2.cell_of (i := 1) rfl
  have d2 := G2.cell_of (i := 2) rfl
  have d3 := G2.cell_of (i := 3) rfl
  have t0 := G3.cell_of (i := 0) rfl
  have HG3 := Lib.hid G3
  clear G1 G2 G3
  go_wp2_with fail
  refine (c_in t 0 256 w2).mono ?_; rw [Hin.out]; rintro e w' ⟨rfl, rfl⟩
  go_wp2_with fail
  have hq : Calls Tryz.prog 156 #[bx4V a, bx4V b, .func (.func 193) #[] #[.pointer (some ⟨w.heap.size + 1 + 1, 0, none⟩)]] w2 fun e w' => e = .returned (bx4V (mixL a b t)) ∧ Below w2.heap.size w2 w' :=
    c_each 193 _ _ Tryz.func193 (by kernel_rfl) rfl (mixG t) a b w2 (fun W hW x y hxy => c_mix1 x y t _ W (by have := Ba.out; omega) (by have := Bb.out; omega) Ht.out ((HG3.out.ext hW).cell_of (i := 0) rfl))
  refine hq.mono ?_
  rw [HM.out]
  rintro e w3 ⟨rfl, hb3⟩
  have E3 := Lib.hid (Ext.trans E2.out hb3)
  have G4 := H4.out.ext E3.out
  have e0 := G4.cell_of (i := 0) rfl
  have e1 := G4.cell_of (i := 1) rfl
  have e2 := G4.cell_of (i := 2) rfl
  have e3 := G4.cell_of (i := 3) rfl
  have z0 := G4.frozen 0
  have z1 := G4.frozen 1
  have z2 := G4.frozen 2
  have z3 := G4.frozen 3
  have EF := Lib.hid (Ext.trans EA.out E3.out)
  clear hb3 G4 c0 c1 c2 c3 d0 d1 d2 d3 t0 hq
  go_wp2_with fail
  exact bodyPost_ret (v := bx4V M) (by simp [results, Tryz.results183, go_sem, e0, e1, e2, e3]) rfl ⟨rfl, (((EF.out.setCell (by simp; omega) _).setCell (by simp; omega) _).setCell (by simp; omega) _).setCell (by simp; omega) _⟩
set_option maxRecDepth 100000 in
set_option maxHeartbeats 4000000 in
theorem c_mix (a b : Bx4) (t : Int) (w : World) (ha : coB a = true) (hb : coB b = true) (ht : 0 ≤ t ∧ t ≤ 256) :
    Calls Tryz.prog 175 #[bx4V a, bx4V b, .int .i64 t] w fun e w' => e = .returned (bx4V (mixL a b t)) ∧ Below w.heap.size w w' := by
  obtain ⟨⟨a10, a11⟩, ⟨a20, a21⟩, ⟨a30, a31⟩, a40, a41⟩ := coB_bd ha
  obtain ⟨⟨b10, b11⟩, ⟨b20, b21⟩, ⟨b30, b31⟩, b40, b41⟩ := coB_bd hb
  obtain ⟨t0, t1⟩ := ht
  obtain ⟨x1, x2, x3, x4⟩ := a
  obtain ⟨y1, y2, y3, y4⟩ := b
  dsimp only at a10 a11 a20 a21 a30 a31 a40 a41 b10 b11 b20 b21 b30 b31 b40 b41
  clear ha hb
  have f0 : IntKind.i64.wrap (256 - t) = 256 - t := IntWalk.i64_in _ (by omega)
  obtain ⟨p1, q1⟩ := mul_nn_bd a10 a11 (show 0 ≤ 256 - t by omega) (show 256 - t ≤ 256 by omega)
  obtain ⟨r1, s1⟩ := mul_nn_bd b10 b11 t0 t1
  have f1 : IntKind.i64.wrap (x1 * (256 - t)) = x1 * (256 - t) := IntWalk.i64_in _ (by omega)
  have g1 : IntKind.i64.wrap (y1 * t) = y1 * t := IntWalk.i64_in _ (by omega)
  have h1 : IntKind.i64.wrap (x1 * (256 - t) + y1 * t) = x1 * (256 - t) + y1 * t := IntWalk.i64_in _ (by omega)
  have N1 := Lib.hid (fun W => c_nearest (x1 * (256 - t) + y1 * t) 256 W (by decide) (by decide) (by omega) (by omega))
  obtain ⟨p2, q2⟩ := mul_nn_bd a20 a21 (show 0 ≤ 256 - t by omega) (show 256 - t ≤ 256 by omega)
  obtain ⟨r2, s2⟩ := mul_nn_bd b20 b21 t0 t1
  have f2 : IntKind.i64.wrap (x2 * (256 - t)) = x2 * (256 - t) := IntWalk.i64_in _ (by omega)
  have g2 : IntKind.i64.wrap (y2 * t) = y2 * t := IntWalk.i64_in _ (by omega)
  have h2 : IntKind.i64.wrap (x2 * (256 - t) + y2 * t) = x2 * (256 - t) + y2 * t := IntWalk.i64_in _ (by omega)
  have N2 := Lib.hid (fun W => c_nearest (x2 * (256 - t) + y2 * t) 256 W (by decide) (by decide) (by omega) (by omega))
  obtain ⟨p3, q3⟩ := mul_nn_bd a30 a31 (show 0 ≤ 256 - t by omega) (show 256 - t ≤ 256 by omega)
  obtain ⟨r3, s3⟩ := mul_nn_bd b30 b31 t0 t1
  have f3 : IntKind.i64.wrap (x3 * (256 - t)) = x3 * (256 - t) := IntWalk.i64_in _ (by omega)
  have g3 : IntKind.i64.wrap (y3 * t) = y3 * t := IntWalk.i64_in _ (by omega)
  have h3 : IntKind.i64.wrap (x3 * (256 - t) + y3 * t) = x3 * (256 - t) + y3 * t := IntWalk.i64_in _ (by omega)
  have N3 := Lib.hid (fun W => c_nearest (x3 * (256 - t) + y3 * t) 256 W (by decide) (by decide) (by omega) (by omega))
  obtain ⟨p4, q4⟩ := mul_nn_bd a40 a41 (show 0 ≤ 256 - t by omega) (show 256 - t ≤ 256 by omega)
  obtain ⟨r4, s4⟩ := mul_nn_bd b40 b41 t0 t1
  have f4 : IntKind.i64.wrap (x4 * (256 - t)) = x4 * (256 - t) := IntWalk.i64_in _ (by omega)
  have g4 : IntKind.i64.wrap (y4 * t) = y4 * t := IntWalk.i64_in _ (by omega)
  have h4 : IntKind.i64.wrap (x4 * (256 - t) + y4 * t) = x4 * (256 - t) + y4 * t := IntWalk.i64_in _ (by omega)
  have N4 := Lib.hid (fun W => c_nearest (x4 * (256 - t) + y4 * t) 256 W (by decide) (by decide) (by omega) (by omega))
  have HF := Lib.hid (And.intro f0 (And.intro f1 (And.intro g1 (And.intro h1 (And.intro f2 (And.intro g2 (And.intro h2 (And.intro f3 (And.intro g3 (And.intro h3 (And.intro f4 (And.intro g4 h4))))))))))))
  clear f0 f1 g1 h1 f2 g2 h2 f3 g3 h3 f4 g4 h4 p1 p2 p3 p4 q1 q2 q3 q4 r1 r2 r3 r4 s1 s2 s3 s4
  go_enter Tryz.func175, Tryz.ntmps175
  go_wp2_with fail
  generalize hW : ((w.alloc (.cells #[.int .i64 x1, .int .i64 x2, .int .i64 x3, .int .i64 x4] 118)).alloc (.cells #[.int .i64 y1, .int .i64 y2, .int .i64 y3, .int .i64 y4] 118)).alloc (.cells #[.int .i64 0, .int .i64 0, .int .i64 0, .int .i64 0] 118) = wa
  have EA : Hid (Ext w wa) := Lib.hid (by rw [← hW]; exact (by repeat (first | exact Below.refl _ _ | assumption | refine Below.drew ?_ | refine Below.alloc ?_ (by first | exact Nat.le_refl _ | omega | (simp; done) | (simp; omega)) _ | refine Below.setCell ?_ (by first | exact Nat.le_refl _ | omega | (simp; done) | (simp; omega)) _)))
  have A1 : Row wa w.heap.size 118 [.int .i64 x1, .int .i64 x2, .int .i64 x3, .int .i64 x4] := by rw [← hW]; exact ((Row.new w 118 [.int .i64 x1, .int .i64 x2, .int .i64 x3, .int .i64 x4]).alloc _).alloc _
  have A2 : Row wa (w.heap.size + 1) 118 [.int .i64 y1, .int .i64 y2, .int .i64 y3, .int .i64 y4] := by rw [← hW]; exact row_mid w _ _ 118 [.int .i64 y1, .int .i64 y2, .int .i64 y3, .int .i64 y4]
  have A3 : Row wa (w.heap.size + 2) 118 [.int .i64 0, .int .i64 0, .int .i64 0, .int .i64 0] := by
    rw [← hW]
    have := Row.new ((w.alloc (.cells #[.int .i64 x1, .int .i64 x2, .int .i64 x3, .int .i64 x4] 118)).alloc (.cells #[.int .i64 y1, .int .i64 y2, .int .i64 y3, .int .i64 y4] 118)) 118 [.int .i64 0, .int .i64 0, .int .i64 0, .int .i64 0]
    simpa using this
  clear hW
  have c0 := A1.cell_of (i := 0) rfl
  have c1 := A1.cell_of (i := 1) rfl
  have c2 := A1.cell_of (i := 2) rfl
  have c3 := A1.cell_of (i := 3) rfl
  have d0 := A2.cell_of (i := 0) rfl
  have d1 := A2.cell_of (i := 1) rfl
  have d2 := A2.cell_of (i := 2) rfl
  have d3 := A2.cell_of (i := 3) rfl
  have H3 := Lib.hid A3
  clear A1 A2 A3
  obtain ⟨f0, f1, g1, h1, f2, g2, h2, f3, g3, h3, f4, g4, h4⟩ := HF.out
  refine wp_region_calm [0,1,2,3,4,5,6,7,8,9,10,11,12,13,14,15,16,17,18,19,20,21,22,23,24,25,26,27,28,29,30,31,32,33,34,35,36,37,38,39,40,41,42,43,44] [45] (by kernel_rfl) (by kernel_rfl) ?_
  iterate 10 ((refine calm_yes rfl rfl (fun w' hC => (by have c0 := hC.cell c0; have c1 := hC.cell c1; have c2 := hC.cell c2; have c3 := hC.cell c3; have d0 := hC.cell d0; have d1 := hC.cell d1; have d2 := hC.cell d2; have d3 := hC.cell d3; go_simp; rfl)) (fun K hK => ?_); go_simp; refine hK _ ?_; clear hK K))
  (apply calm_call rfl rfl rfl Tryz.func144 (by kernel_rfl) rfl (by go_simp; rfl); exact (fun w' hC => ext_of_same (N1.out w')); intro K hK; go_simp; refine hK _ ?_; clear hK K)
  iterate 10 ((refine calm_yes rfl rfl (fun w' hC => (by have c0 := hC.cell c0; have c1 := hC.cell c1; have c2 := hC.cell c2; have c3 := hC.cell c3; have d0 := hC.cell d0; have d1 := hC.cell d1; have d2 := hC.cell d2; have d3 := hC.cell d3; go_simp; rfl)) (fun K hK => ?_); go_simp; refine hK _ ?_; clear hK K))
  (apply calm_call rfl rfl rfl Tryz.func144 (by kernel_rfl) rfl (by go_simp; rfl); exact (fun w' hC => ext_of_same (N2.out w')); intro K hK; go_simp; refine hK _ ?_; clear hK K)
  iterate 10 ((refine calm_yes rfl rfl (fun w' hC => (by have c0 := hC.cell c0; have c1 := hC.cell c1; have c2 := hC.cell c2; have c3 := hC.cell c3; have d0 := hC.cell d0; have d1 := hC.cell d1; have d2 := hC.cell d2; have d3 := hC.cell d3; go_simp; rfl)) (fun K hK => ?_); go_simp; refine hK _ ?_; clear hK K))
  (apply calm_call rfl rfl rfl Tryz.func144 (by kernel_rfl) rfl (by go_simp; rfl); exact (fun w' hC => ext_of_same (N3.out w')); intro K hK; go_simp; refine hK _ ?_; clear hK K)
  iterate 10 ((refine calm_yes rfl rfl (fun w' hC => (by have c0 := hC.cell c0; have c1 := hC.cell c1; have c2 := hC.cell c2; have c3 := hC.cell c3; have d0 := hC.cell d0; have d1 := hC.cell d1; have d2 := hC.cell d2; have d3 := hC.cell d3; go_simp; rfl)) (fun K hK => ?_); go_simp; refine hK _ ?_; clear hK K))
  (apply calm_call rfl rfl rfl Tryz.func144 (by kernel_rfl) rfl (by go_simp; rfl); exact (fun w' hC => ext_of_same (N4.out w')); intro K hK; go_simp; refine hK _ ?_; clear hK K)
  (refine calm_yes rfl rfl (fun w' hC => (by go_simp; rfl)) (fun K hK => ?_); go_simp; refine hK _ ?_; clear hK K)
  clear f0 f1 g1 h1 f2 g2 h2 f3 g3 h3 f4 g4 h4 c0 c1 c2 c3 d0 d1 d2 d3
  refine calm_nil (fun w2 hC2 => ?_)
  refine late_free (by kernel_rfl) rfl rfl (fun w3 hx3 K' hK => ?_)
  have E3 : Ext wa w3 := Ext.trans (ext_cls hC2) hx3
  have S3 := H3.out.ext E3
  have e0 := S3.cell_of (i := 0) rfl
  have e1 := S3.cell_of (i := 1) rfl
  have e2 := S3.cell_of (i := 2) rfl
  have e3 := S3.cell_of (i := 3) rfl
  have z0 := S3.frozen 0
  have z1 := S3.frozen 1
  have z2 := S3.frozen 2
  have z3 := S3.frozen 3
  clear HF
  generalize hm1 : rndL (x1 * (256 - t) + y1 * t) 256 = m1 at *
  generalize hm2 : rndL (x2 * (256 - t) + y2 * t) 256 = m2 at *
  generalize hm3 : rndL (x3 * (256 - t) + y3 * t) 256 = m3 at *
  generalize hm4 : rndL (x4 * (256 - t) + y4 * t) 256 = m4 at *
  have HM : Hid (mixL (x1, x2, x3, x4) (y1, y2, y3, y4) t = (m1, m2, m3, m4)) := Lib.hid (by rw [← hm1, ← hm2, ← hm3, ← hm4]; rfl)
  clear hm1 hm2 hm3 hm4
  go_simp
  refine hK _ _ ?_
  clear hK K'
  refine late_nil (fun w4 hx4 => ?_)
  have S4 := (((((S3.set_ 0 (.int .i64 m1)).set_ 1 (.int .i64 m2)).set_ 2 (.int .i64 m3)).set_ 3 (.int .i64 m4))).ext hx4
  have B4 : Ext w w4 := Ext.trans (((((Ext.trans EA.out E3).setCell (by simp; omega) _).setCell (by simp; omega) _).setCell (by simp; omega) _).setCell (by simp; omega) _) hx4
  have g0 := S4.cell_of (i := 0) rfl
  have g1 := S4.cell_of (i := 1) rfl
  have g2 := S4.cell_of (i := 2) rfl
  have g3 := S4.cell_of (i := 3) rfl
  clear e0 e1 e2 e3 z0 z1 z2 z3 S3 E3 hx3 hx4 hC2
  go_wp2_with fail
  exact bodyPost_ret (v := bx4V (m1, m2, m3, m4)) (by simp [results, Tryz.results175, go_sem, g0, g1, g2, g3]) rfl ⟨by rw [HM.out], B4⟩
end Go.Proofs.YtagmnbphbakikaaGreat
namespace Go.Proofs.YtagmnbphbakikaaGreat
open Go Go.RowKit Reg
attribute [local go_sem] calmAt calmUpon
abbrev St := Int × Bx4
def stC (s : St) : List Value := .int .i64 s.1 :: bxC s.2
theorem stC_len (s : St) : (stC s).length = 5 := rfl
def stR : World → St → List Value → Prop := fun _ s us => us = stC s
theorem stR_stab : Stab stR := fun _ _ _ _ h _ => h
abbrev Sts (w : World) (A : Option Addr) (ss : List St) : Prop := In stR 5 w A ss
theorem In.sts {w : World} {A : Option Addr} {ss : List St} (h : Sts w A ss) (hn : 0 < ss.length) : ∃ b off, A = some ⟨b, off, none⟩ ∧ b < w.heap.size ∧
    ∀ (k : Nat) (h : k < ss.length), w.cell? ⟨b, off + k * 5, none⟩ = some (.int .i64 ss[k].1) ∧ w.cell? ⟨b, off + k * 5 + 1, none⟩ = some (.int .i64 ss[k].2.1) ∧ w.cell? ⟨b, off + k * 5 + 2, none⟩ = some (.int .i64 ss[k].2.2.1) ∧
      w.cell? ⟨b, off + k * 5 + 3, none⟩ = some (.int .i64 ss[k].2.2.2.1) ∧ w.cell? ⟨b, off + k * 5 + 4, none⟩ = some (.int .i64 ss[k].2.2.2.2) := by
  have hlt := h.lt (by omega) hn
  obtain ⟨b, off, hA, hc⟩ := h hn
  refine ⟨b, off, hA, hlt b off hA, fun k hk => ?_⟩
  obtain ⟨us, h1, _, h3⟩ := hc k hk
  have h1' : us = stC ss[k] := h1
  subst h1'
  exact ⟨h3 0 _ rfl, h3 1 _ rfl, h3 2 _ rfl, h3 3 _ rfl, h3 4 _ rfl⟩
/-- The place before stop k. -/
def lastAt (ss : List St) (k : Nat) : Int := if k = 0 then -1 else (ss.getD (k - 1) (0, 0, 0, 0, 0)).1
def stOk (ss : List St) (k : Nat) : Bool := inB (ss.getD k (0, 0, 0, 0, 0)).1 (lastAt ss k + 1) 256 && coB (ss.getD k (0, 0, 0, 0, 0)).2
def stTo (ss : List St) (k : Nat) : Prop := ∀ i, i < k → stOk ss i = true
def stB (ss : List St) : Bool := (List.range ss.length).all (stOk ss) && inB (ss.length : Int) 1 4
theorem stOk_at {ss : List St} {k : Nat} (hk : k < ss.length) : stOk ss k = (inB ss[k].1 (lastAt ss k + 1) 256 && coB ss[k].2) := by
  unfold stOk
  rw [List.getD_eq_getElem?_getD, List.getElem?_eq_getElem hk]
  rfl
theorem lastAt_succ {ss : List St} {k : Nat} (hk : k < ss.length) : lastAt ss (k + 1) = ss[k].1 := by
  unfold lastAt
  rw [if_neg (by omega), Nat.add_sub_cancel, List.getD_eq_getElem?_getD, List.getElem?_eq_getElem hk]
  rfl
theorem lastAt_bd {ss : List St} {k : Nat} (h : stTo ss k) (hk : k ≤ ss.length) : -1 ≤ lastAt ss k ∧ lastAt ss k ≤ 256 ∧ (0 < k → 0 ≤ lastAt ss k) := by
  induction k with
  | zero => simp [lastAt]
  | succ k ih =>
    obtain ⟨i1, _, _⟩ := ih (fun i hi => h i (by omega)) (by omega)
    have h2 := h k (by omega)
    rw [stOk_at (by omega)] at h2
    rw [lastAt_succ (by omega)]
    simp only [Bool.and_eq_true, inB_iff] at h2
    omega
theorem stTo_succ {ss : List St} {k : Nat} (h : stTo ss k) (hk : stOk ss k = true) : stTo ss (k + 1) := by
  intro i hi
  by_cases h' : i = k
  · subst h'; exact hk
  · exact h i (by omega)
theorem stB_no {ss : List St} {k : Nat} (hk : k < ss.length) (h : stOk ss k = false) : stB ss = false := by
  unfold stB
  have : (List.range ss.length).all (stOk ss) = false := by
    rw [List.all_eq_false]
    exact ⟨k, by simpa using hk, by simp [h]⟩
  simp [this]
theorem stB_all {ss : List St} (h : stTo ss ss.length) : stB ss = inB (ss.length : Int) 1 4 := by
  unfold stB
  have : (List.range ss.length).all (stOk ss) = true := by
    rw [List.all_eq_true]
    intro i hi
    exact h i (by simpa using hi)
  simp [this]
theorem stB_at {ss : List St} (h : stB ss = true) {k : Nat} (hk : k < ss.length) : (lastAt ss k + 1 ≤ ss[k].1 ∧ ss[k].1 ≤ 256) ∧ coB ss[k].2 = true := by
  unfold stB at h
  simp only [Bool.and_eq_true, List.all_eq_true, List.mem_range] at h
  have := h.1 k hk
  rw [stOk_at hk] at this
  simp only [Bool.and_eq_true, inB_iff] at this
  exact this
theorem stB_len {ss : List St} (h : stB ss = true) : 1 ≤ ss.length ∧ ss.length ≤ 4 := by
  unfold stB at h
  simp only [Bool.and_eq_true, inB_iff] at h
  omega
theorem stB_to {ss : List St} (h : stB ss = true) : stTo ss ss.length := by
  unfold stB at h
  simp only [Bool.and_eq_true, List.all_eq_true, List.mem_range] at h
  exact fun i hi => h.1 i hi
theorem ei_st : EI Tryz.prog 46 168 (.agg #[.int .i64 0, .int .i64 0, .int .i64 0, .int .i64 0, .int .i64 0]) [.int .i64 0, .int .i64 0, .int .i64 0, .int .i64 0, .int .i64 0] 40 := ei_mk Tryz.underlying46 (by kernel_rfl) rfl (by decide) (by decide)
set_option maxRecDepth 100000 in
set_option maxHeartbeats 4000000 in
theorem c_iValidStops (A : Option Addr) (cap : Nat) (ss : List St) (w : World) (h : Sts w A ss) (hl : ss.length ≤ 1000000000) :
    Calls Tryz.prog 153 #[.slice A ss.length cap] w fun e w' => e = .returned (.bool (stB ss)) ∧ Below w.heap.size w w' := by
  have H := Lib.hid h
  clear h
  go_enter Tryz.func153, Tryz.ntmps153
  go_wp2_with fail
  go_loopw [3, 5, 8] (fun l _ i wr => ∃ k : Nat, k ≤ ss.length ∧ i = .int .i64 k ∧ l = .int .i64 (lastAt ss k) ∧ stTo ss k ∧ Below w.heap.size w wr) (fun _ _ i _ => ss.length - (intOf i).toNat)
  case atStart => exact ⟨0, Nat.zero_le _, rfl, rfl, fun i hi => by omega, Below.refl _ _⟩
  case round =>
    obtain ⟨k, hk, rfl, rfl, hto, hbw⟩ := hrel
    have Hto := Lib.hid hto
    have HB := Lib.hid hbw
    obtain ⟨b1, b2, b3⟩ := lastAt_bd hto hk
    by_cases hlt : k < ss.length
    · have hne : ¬ ss = [] := by intro hh; subst hh; simp at hlt
      obtain ⟨b, off, rfl, hbl, hc⟩ := (H.out.ext stR_stab hbw).sts (by omega)
      obtain ⟨c0, c1, c2, c3, c4⟩ := hc k hlt
      have Hok := Lib.hid (stOk_at hlt)
      have Hno : Hid (stOk ss k = false → stB ss = false) := Lib.hid (stB_no hlt)
      have Hls := Lib.hid (lastAt_succ hlt)
      generalize lastAt ss k = la at *
      generalize ss[k] = s at *
      obtain ⟨at_, cr, cg, cb, ca⟩ := s
      dsimp only at c0 c1 c2 c3 c4
      clear hc hto hbw hk b3
      by_cases hin : inB at_ (la + 1) 256 = true
      · have Hin := Lib.hid hin
        have hin2 := inB_iff.1 hin
        clear hin
        by_cases hco : coB (cr, cg, cb, ca) = true
        · have Hco := Lib.hid hco
          have Hv : Hid (stOk ss k = true) := Lib.hid (by rw [Hok.out, Hin.out, hco]; rfl)
          clear hco
          go_wp2_with (first | (go_at_call 77; refine (c_in at_ (la + 1) 256 _).mono ?_; rw [Hin.out]; rintro e w' ⟨rfl, rfl⟩) | (go_at_call 155; refine (c_ValidColor (cr, cg, cb, ca) _).mono ?_; rw [Hco.out]; rintro e w1 ⟨rfl, hb1⟩; obtain ⟨hc1, hf1⟩ := bcell hb1))
          go_roundw
          case rel => exact ⟨k + 1, by omega, by go_num, by rw [Hls.out], stTo_succ Hto.out Hv.out, below_ext HB.out (Ext.trans (by repeat (first | exact Below.refl _ _ | assumption | refine Below.drew ?_ | refine Below.alloc ?_ (by first | exact Nat.le_refl _ | omega | (simp; done) | (simp; omega)) _ | refine Below.setCell ?_ (by first | exact Nat.le_refl _ | omega | (simp; done) | (simp; omega)) _)) hb1)⟩
          case measure => simp [intOf]; omega
        · simp only [Bool.not_eq_true] at hco
          have Hco := Lib.hid hco
          have Hv : Hid (stOk ss k = false) := Lib.hid (by rw [Hok.out, hco]; simp)
          clear hco
          go_wp2_with (first | (go_at_call 77; refine (c_in at_ (la + 1) 256 _).mono ?_; rw [Hin.out]; rintro e w' ⟨rfl, rfl⟩) | (go_at_call 155; refine (c_ValidColor (cr, cg, cb, ca) _).mono ?_; rw [Hco.out]; rintro e w1 ⟨rfl, hb1⟩; obtain ⟨hc1, hf1⟩ := bcell hb1))
          go_ret
          exact ⟨ret_bb (Hno.out Hv.out).symm, below_ext HB.out (Ext.trans (by repeat (first | exact Below.refl _ _ | assumption | refine Below.drew ?_ | refine Below.alloc ?_ (by first | exact Nat.le_refl _ | omega | (simp; done) | (simp; omega)) _ | refine Below.setCell ?_ (by first | exact Nat.le_refl _ | omega | (simp; done) | (simp; omega)) _)) hb1)⟩
      · simp only [Bool.not_eq_true] at hin
        have Hin := Lib.hid hin
        have Hv : Hid (stOk ss k = false) := Lib.hid (by rw [Hok.out]; dsimp only; rw [hin]; rfl)
        clear hin
        go_wp2_with (go_at_call 77; refine (c_in at_ (la + 1) 256 _).mono ?_; rw [Hin.out]; rintro e w' ⟨rfl, rfl⟩)
        go_ret
        exact ⟨ret_bb (Hno.out Hv.out).symm, below_ext HB.out (by repeat (first | exact Below.refl _ _ | assumption | refine Below.drew ?_ | refine Below.alloc ?_ (by first | exact Nat.le_refl _ | omega | (simp; done) | (simp; omega)) _ | refine Below.setCell ?_ (by first | exact Nat.le_refl _ | omega | (simp; done) | (simp; omega)) _))⟩
    · obtain rfl : k = ss.length := by omega
      have hall := Lib.hid (stB_all Hto.out)
      clear hto hbw hk b3
      go_wp2_with (go_at_call 77; refine (c_in ss.length 1 4 _).mono ?_; rintro e w' ⟨rfl, rfl⟩)
      go_ret
      exact ⟨ret_bb hall.out.symm, HB.out⟩
set_option maxRecDepth 100000 in
set_option maxHeartbeats 8000000 in
theorem c_sValidStops (A : Option Addr) (cap : Nat) (ss : List St) (w : World) (h : Sts w A ss) (hl : ss.length ≤ 1000000000) :
    Calls Tryz.prog 102 #[.slice A ss.length cap] w fun e w' => e = .returned (.bool (stB ss)) ∧ Below w.heap.size w w' := by
  have H := Lib.hid h
  clear h
  go_enter Tryz.func102, Tryz.ntmps102
  go_wp2_with fail
  go_loopw [3] (fun i wr => ∃ k : Nat, k ≤ ss.length ∧ i = .int .i64 k ∧ stTo ss k ∧ Below w.heap.size w wr) (fun i _ => ss.length - (intOf i).toNat)
  case atStart => exact ⟨0, Nat.zero_le _, rfl, fun i hi => by omega, Below.refl _ _⟩
  case round =>
    obtain ⟨k, hk, rfl, hto, hbw⟩ := hrel
    have Hto := Lib.hid hto
    have HB := Lib.hid hbw
    obtain ⟨b1, b2, b3⟩ := lastAt_bd hto hk
    by_cases hlt : k < ss.length
    · have hne : ¬ ss = [] := by intro hh; subst hh; simp at hlt
      obtain ⟨b, off, rfl, hbl, hc⟩ := (H.out.ext stR_stab hbw).sts (by omega)
      obtain ⟨c0, c1, c2, c3, c4⟩ := hc k hlt
      have Hok := Lib.hid (stOk_at hlt)
      have Hno : Hid (stOk ss k = false → stB ss = false) := Lib.hid (stB_no hlt)
      have hprev : 0 < k → wr.cell? ⟨b, off + (k - 1) * 5, none⟩ = some (.int .i64 (lastAt ss k)) := fun h0 => by
        obtain ⟨q, _⟩ := hc (k - 1) (by omega)
        have e : lastAt ss k = ss[k - 1].1 := by
          have := lastAt_succ (ss := ss) (k := k - 1) (by omega)
          rwa [Nat.sub_add_cancel h0] at this
        rw [e]; exact q
      have hla0 : k = 0 → lastAt ss k = -1 := fun h0 => by simp [lastAt, h0]
      have Hprev := Lib.hid hprev
      have Hla0 := Lib.hid hla0
      have HB3 := Lib.hid b3
      generalize lastAt ss k = la at *
      generalize ss[k] = s at *
      obtain ⟨at_, cr, cg, cb, ca⟩ := s
      dsimp only at c0 c1 c2 c3 c4
      obtain ⟨u1, u2⟩ : (0 : Int) ≤ (k : Int) ∧ (k : Int) < (ss.length : Int) := by omega
      clear hc hto hbw hk b3 hprev hla0
      by_cases hin : inB at_ 0 256 = true
      · have Hin := Lib.hid hin
        have K1 : Hid (∀ W, Calls Tryz.prog 28 #[.int .i64 at_, .int .i64 0, .int .i64 256] W fun e w' => e = .returned (.bool true) ∧ Below W.heap.size W w') := Lib.hid (fun W => by have := ext_of_same (c_inRange at_ 0 256 W); rwa [Hin.out] at this)
        obtain ⟨v1, v2⟩ := inB_iff.1 hin
        clear hin
        by_cases hco : coB (cr, cg, cb, ca) = true
        · have Hco := Lib.hid hco
          have K2 : Hid (∀ W, Calls Tryz.prog 140 #[bx4V (cr, cg, cb, ca)] W fun e w' => e = .returned (.bool true) ∧ Below W.heap.size W w') := Lib.hid (fun W => by have := c_validColor (cr, cg, cb, ca) W; rwa [Hco.out] at this)
          clear hco
          by_cases hk0 : k = 0
          · have hI : ¬ (0 : Int) < (k : Int) := by omega
            have hI2 : ¬ 0 < k := by omega
            have Hv : Hid (stOk ss k = true) := Lib.hid (by
              have := Hla0.out hk0
              rw [Hok.out, Hco.out]; simp [inB]; omega)
            clear hk0
            go_wp2_with fail
            refine wp_region_calm [0,1,2,3,4,5,6,7,8,9,10,11,12,13,14,15,16,17,18,19,20,21,22,23,24,25,26,27,28,29,30,31,32,33] [] (by kernel_rfl) (by kernel_rfl) ?_
            iterate 5 ((first | (refine calm_yes rfl rfl (fun w' hC => (by have c0 := hC.cell c0; have c1 := hC.cell c1; have c2 := hC.cell c2; have c3 := hC.cell c3; have c4 := hC.cell c4; go_simp; rfl)) (fun K hK => ?_); go_simp; refine hK _ ?_; clear hK K) | (refine calm_no rfl rfl (fun K hK => ?_); go_simp; refine hK _ ?_; clear hK K)))
            (first | (apply calm_call rfl rfl rfl Tryz.func28 (by kernel_rfl) rfl (by go_simp; rfl); exact (fun w' hC => K1.out w'); intro K hK; go_simp; refine hK _ ?_; clear hK K) | (refine calm_no rfl rfl (fun K hK => ?_); go_simp; refine hK _ ?_; clear hK K))
            iterate 7 ((first | (refine calm_yes rfl rfl (fun w' hC => (by have c0 := hC.cell c0; have c1 := hC.cell c1; have c2 := hC.cell c2; have c3 := hC.cell c3; have c4 := hC.cell c4; go_simp; rfl)) (fun K hK => ?_); go_simp; refine hK _ ?_; clear hK K) | (refine calm_no rfl rfl (fun K hK => ?_); go_simp; refine hK _ ?_; clear hK K)))
            (first | (apply calm_call rfl rfl rfl Tryz.func140 (by kernel_rfl) rfl (by go_simp; rfl); exact (fun w' hC => K2.out w'); intro K hK; go_simp; refine hK _ ?_; clear hK K) | (refine calm_no rfl rfl (fun K hK => ?_); go_simp; refine hK _ ?_; clear hK K))
            iterate 20 ((first | (refine calm_yes rfl rfl (fun w' hC => (by have c0 := hC.cell c0; have c1 := hC.cell c1; have c2 := hC.cell c2; have c3 := hC.cell c3; have c4 := hC.cell c4; go_simp; rfl)) (fun K hK => ?_); go_simp; refine hK _ ?_; clear hK K) | (refine calm_no rfl rfl (fun K hK => ?_); go_simp; refine hK _ ?_; clear hK K)))
            refine calm_done (fun w1 hb1 => ?_)
            have E1 := Lib.hid hb1
            clear hb1
            go_wp2
            go_roundw
            case rel => exact ⟨k + 1, by omega, by go_num, stTo_succ Hto.out Hv.out, below_ext HB.out E1.out⟩
            case measure => simp [intOf]; omega
          · have hI : (0 : Int) < (k : Int) := by omega
            have hI2 : 0 < k := by omega
            have cp := Hprev.out (by omega)
            have p0 := HB3.out (by omega)
            have f1 : IntKind.i64.wrap ((k : Int) - 1) = (k : Int) - 1 := IntWalk.i64_in _ (by omega)
            have e1 : ((k : Int) - 1).toNat = k - 1 := by omega
            obtain ⟨u3, u4⟩ : (0 : Int) ≤ (k : Int) - 1 ∧ (k : Int) - 1 < (ss.length : Int) := by omega
            have u5 : (1 : Int) ≤ (k : Int) := by omega
            have u6 : 1 ≤ k := by omega
            by_cases hle : at_ ≤ la
            · have Hv : Hid (stOk ss k = false) := Lib.hid (by
                have : inB at_ (la + 1) 256 = false := by simp [inB]; omega
                rw [Hok.out]; dsimp only; rw [this]; rfl)
              go_wp2_with fail
              refine wp_region_calm [0,1,2,3,4,5,6,7,8,9,10,11,12,13,14,15,16,17,18,19,20,21,22,23,24,25,26,27,28,29,30,31,32,33] [] (by kernel_rfl) (by kernel_rfl) ?_
              iterate 5 ((first | (refine calm_yes rfl rfl (fun w' hC => (by have c0 := hC.cell c0; have c1 := hC.cell c1; have c2 := hC.cell c2; have c3 := hC.cell c3; have c4 := hC.cell c4; go_simp; rfl)) (fun K hK => ?_); go_simp; refine hK _ ?_; clear hK K) | (refine calm_no rfl rfl (fun K hK => ?_); go_simp; refine hK _ ?_; clear hK K)))
              (first | (apply calm_call rfl rfl rfl Tryz.func28 (by kernel_rfl) rfl (by go_simp; rfl); exact (fun w' hC => K1.out w'); intro K hK; go_simp; refine hK _ ?_; clear hK K) | (refine calm_no rfl rfl (fun K hK => ?_); go_simp; refine hK _ ?_; clear hK K))
              iterate 7 ((first | (refine calm_yes rfl rfl (fun w' hC => (by have c0 := hC.cell c0; have c1 := hC.cell c1; have c2 := hC.cell c2; have c3 := hC.cell c3; have c4 := hC.cell c4; go_simp; rfl)) (fun K hK => ?_); go_simp; refine hK _ ?_; clear hK K) | (refine calm_no rfl rfl (fun K hK => ?_); go_simp; refine hK _ ?_; clear hK K)))
              (first | (apply calm_call rfl rfl rfl Tryz.func140 (by kernel_rfl) rfl (by go_simp; rfl); exact (fun w' hC => K2.out w'); intro K hK; go_simp; refine hK _ ?_; clear hK K) | (refine calm_no rfl rfl (fun K hK => ?_); go_simp; refine hK _ ?_; clear hK K))
              iterate 20 ((first | (refine calm_yes rfl rfl (fun w' hC => (by have c0 := hC.cell c0; have c1 := hC.cell c1; have c2 := hC.cell c2; have c3 := hC.cell c3; have c4 := hC.cell c4; have cp := hC.cell cp; go_simp; rfl)) (fun K hK => ?_); go_simp; refine hK _ ?_; clear hK K) | (refine calm_no rfl rfl (fun K hK => ?_); go_simp; refine hK _ ?_; clear hK K)))
              refine calm_done (fun w1 hb1 => ?_)
              have E1 := Lib.hid hb1
              clear hb1
              clear f1 e1
              go_wp2
              go_ret
              exact ⟨ret_bb (Hno.out Hv.out).symm, below_ext HB.out E1.out⟩
            · have Hv : Hid (stOk ss k = true) := Lib.hid (by
                have : inB at_ (la + 1) 256 = true := by simp [inB]; omega
                rw [Hok.out]; dsimp only; rw [this, Hco.out]; rfl)
              go_wp2_with fail
              refine wp_region_calm [0,1,2,3,4,5,6,7,8,9,10,11,12,13,14,15,16,17,18,19,20,21,22,23,24,25,26,27,28,29,30,31,32,33] [] (by kernel_rfl) (by kernel_rfl) ?_
              iterate 5 ((first | (refine calm_yes rfl rfl (fun w' hC => (by have c0 := hC.cell c0; have c1 := hC.cell c1; have c2 := hC.cell c2; have c3 := hC.cell c3; have c4 := hC.cell c4; go_simp; rfl)) (fun K hK => ?_); go_simp; refine hK _ ?_; clear hK K) | (refine calm_no rfl rfl (fun K hK => ?_); go_simp; refine hK _ ?_; clear hK K)))
              (first | (apply calm_call rfl rfl rfl Tryz.func28 (by kernel_rfl) rfl (by go_simp; rfl); exact (fun w' hC => K1.out w'); intro K hK; go_simp; refine hK _ ?_; clear hK K) | (refine calm_no rfl rfl (fun K hK => ?_); go_simp; refine hK _ ?_; clear hK K))
              iterate 7 ((first | (refine calm_yes rfl rfl (fun w' hC => (by have c0 := hC.cell c0; have c1 := hC.cell c1; have c2 := hC.cell c2; have c3 := hC.cell c3; have c4 := hC.cell c4; go_simp; rfl)) (fun K hK => ?_); go_simp; refine hK _ ?_; clear hK K) | (refine calm_no rfl rfl (fun K hK => ?_); go_simp; refine hK _ ?_; clear hK K)))
              (first | (apply calm_call rfl rfl rfl Tryz.func140 (by kernel_rfl) rfl (by go_simp; rfl); exact (fun w' hC => K2.out w'); intro K hK; go_simp; refine hK _ ?_; clear hK K) | (refine calm_no rfl rfl (fun K hK => ?_); go_simp; refine hK _ ?_; clear hK K))
              iterate 20 ((first | (refine calm_yes rfl rfl (fun w' hC => (by have c0 := hC.cell c0; have c1 := hC.cell c1; have c2 := hC.cell c2; have c3 := hC.cell c3; have c4 := hC.cell c4; have cp := hC.cell cp; go_simp; rfl)) (fun K hK => ?_); go_simp; refine hK _ ?_; clear hK K) | (refine calm_no rfl rfl (fun K hK => ?_); go_simp; refine hK _ ?_; clear hK K)))
              refine calm_done (fun w1 hb1 => ?_)
              have E1 := Lib.hid hb1
              clear hb1
              clear f1 e1
              go_wp2
              go_roundw
              case rel => exact ⟨k + 1, by omega, by go_num, stTo_succ Hto.out Hv.out, below_ext HB.out E1.out⟩
              case measure => simp [intOf]; omega
        · simp only [Bool.not_eq_true] at hco
          have Hco := Lib.hid hco
          have K2 : Hid (∀ W, Calls Tryz.prog 140 #[bx4V (cr, cg, cb, ca)] W fun e w' => e = .returned (.bool false) ∧ Below W.heap.size W w') := Lib.hid (fun W => by have := c_validColor (cr, cg, cb, ca) W; rwa [Hco.out] at this)
          have Hv : Hid (stOk ss k = false) := Lib.hid (by rw [Hok.out, hco]; simp)
          clear hco
          go_wp2_with fail
          refine wp_region_calm [0,1,2,3,4,5,6,7,8,9,10,11,12,13,14,15,16,17,18,19,20,21,22,23,24,25,26,27,28,29,30,31,32,33] [] (by kernel_rfl) (by kernel_rfl) ?_
          iterate 5 ((first | (refine calm_yes rfl rfl (fun w' hC => (by have c0 := hC.cell c0; have c1 := hC.cell c1; have c2 := hC.cell c2; have c3 := hC.cell c3; have c4 := hC.cell c4; go_simp; rfl)) (fun K hK => ?_); go_simp; refine hK _ ?_; clear hK K) | (refine calm_no rfl rfl (fun K hK => ?_); go_simp; refine hK _ ?_; clear hK K)))
          (first | (apply calm_call rfl rfl rfl Tryz.func28 (by kernel_rfl) rfl (by go_simp; rfl); exact (fun w' hC => K1.out w'); intro K hK; go_simp; refine hK _ ?_; clear hK K) | (refine calm_no rfl rfl (fun K hK => ?_); go_simp; refine hK _ ?_; clear hK K))
          iterate 7 ((first | (refine calm_yes rfl rfl (fun w' hC => (by have c0 := hC.cell c0; have c1 := hC.cell c1; have c2 := hC.cell c2; have c3 := hC.cell c3; have c4 := hC.cell c4; go_simp; rfl)) (fun K hK => ?_); go_simp; refine hK _ ?_; clear hK K) | (refine calm_no rfl rfl (fun K hK => ?_); go_simp; refine hK _ ?_; clear hK K)))
          (first | (apply calm_call rfl rfl rfl Tryz.func140 (by kernel_rfl) rfl (by go_simp; rfl); exact (fun w' hC => K2.out w'); intro K hK; go_simp; refine hK _ ?_; clear hK K) | (refine calm_no rfl rfl (fun K hK => ?_); go_simp; refine hK _ ?_; clear hK K))
          iterate 20 ((first | (refine calm_yes rfl rfl (fun w' hC => (by have c0 := hC.cell c0; have c1 := hC.cell c1; have c2 := hC.cell c2; have c3 := hC.cell c3; have c4 := hC.cell c4; go_simp; rfl)) (fun K hK => ?_); go_simp; refine hK _ ?_; clear hK K) | (refine calm_no rfl rfl (fun K hK => ?_); go_simp; refine hK _ ?_; clear hK K)))
          refine calm_done (fun w1 hb1 => ?_)
          have E1 := Lib.hid hb1
          clear hb1
          go_wp2
          go_ret
          exact ⟨ret_bb (Hno.out Hv.out).symm, below_ext HB.out E1.out⟩
      · simp only [Bool.not_eq_true] at hin
        have Hin := Lib.hid hin
        have K1 : Hid (∀ W, Calls Tryz.prog 28 #[.int .i64 at_, .int .i64 0, .int .i64 256] W fun e w' => e = .returned (.bool false) ∧ Below W.heap.size W w') := Lib.hid (fun W => by have := ext_of_same (c_inRange at_ 0 256 W); rwa [Hin.out] at this)
        have K2 : Hid (∀ W, Calls Tryz.prog 140 #[bx4V (cr, cg, cb, ca)] W fun e w' => e = .returned (.bool (coB (cr, cg, cb, ca))) ∧ Below W.heap.size W w') := Lib.hid (fun W => c_validColor (cr, cg, cb, ca) W)
        have Hv : Hid (stOk ss k = false) := Lib.hid (by
          have h1 := Hin.out
          simp [inB] at h1
          have : inB at_ (la + 1) 256 = false := by simp [inB]; omega
          rw [Hok.out]; dsimp only; rw [this]; rfl)
        clear hin
        go_wp2_with fail
        refine wp_region_calm [0,1,2,3,4,5,6,7,8,9,10,11,12,13,14,15,16,17,18,19,20,21,22,23,24,25,26,27,28,29,30,31,32,33] [] (by kernel_rfl) (by kernel_rfl) ?_
        iterate 5 ((first | (refine calm_yes rfl rfl (fun w' hC => (by have c0 := hC.cell c0; have c1 := hC.cell c1; have c2 := hC.cell c2; have c3 := hC.cell c3; have c4 := hC.cell c4; go_simp; rfl)) (fun K hK => ?_); go_simp; refine hK _ ?_; clear hK K) | (refine calm_no rfl rfl (fun K hK => ?_); go_simp; refine hK _ ?_; clear hK K)))
        (first | (apply calm_call rfl rfl rfl Tryz.func28 (by kernel_rfl) rfl (by go_simp; rfl); exact (fun w' hC => K1.out w'); intro K hK; go_simp; refine hK _ ?_; clear hK K) | (refine calm_no rfl rfl (fun K hK => ?_); go_simp; refine hK _ ?_; clear hK K))
        iterate 7 ((first | (refine calm_yes rfl rfl (fun w' hC => (by have c0 := hC.cell c0; have c1 := hC.cell c1; have c2 := hC.cell c2; have c3 := hC.cell c3; have c4 := hC.cell c4; go_simp; rfl)) (fun K hK => ?_); go_simp; refine hK _ ?_; clear hK K) | (refine calm_no rfl rfl (fun K hK => ?_); go_simp; refine hK _ ?_; clear hK K)))
        (first | (apply calm_call rfl rfl rfl Tryz.func140 (by kernel_rfl) rfl (by go_simp; rfl); exact (fun w' hC => K2.out w'); intro K hK; go_simp; refine hK _ ?_; clear hK K) | (refine calm_no rfl rfl (fun K hK => ?_); go_simp; refine hK _ ?_; clear hK K))
        iterate 20 ((first | (refine calm_yes rfl rfl (fun w' hC => (by have c0 := hC.cell c0; have c1 := hC.cell c1; have c2 := hC.cell c2; have c3 := hC.cell c3; have c4 := hC.cell c4; go_simp; rfl)) (fun K hK => ?_); go_simp; refine hK _ ?_; clear hK K) | (refine calm_no rfl rfl (fun K hK => ?_); go_simp; refine hK _ ?_; clear hK K)))
        refine calm_done (fun w1 hb1 => ?_)
        have E1 := Lib.hid hb1
        clear hb1
        go_wp2
        go_ret
        exact ⟨ret_bb (Hno.out Hv.out).symm, below_ext HB.out E1.out⟩
    · obtain rfl : k = ss.length := by omega
      have hall := Lib.hid (stB_all Hto.out)
      clear hto hbw hk b3
      go_wp2_with (go_at_call 28; refine (c_inRange ss.length 1 4 _).mono ?_; rintro e w' ⟨rfl, rfl⟩)
      go_ret
      exact ⟨ret_bb hall.out.symm, HB.out⟩
end Go.Proofs.YtagmnbphbakikaaGreat
