/-
  Clean polygons: the walks.
-/
import Derived.Test.YthfnomlkoiacbaaClone
import Derived.Test.YthfnomlkoiacbaaSlice
import Derived.Test.YthfnomlkoiacbaaCleanL
namespace Go.Proofs.Ythfnomlkoiacbaa
open Go Go.RowKit Reg
attribute [local go_sem] calmAt calmUpon
set_option maxHeartbeats 1000000 in
theorem c_needless (a b c : Pt) (w : World) (h1 : Crd a.1) (h2 : Crd a.2) (h3 : Crd b.1) (h4 : Crd b.2) (h5 : Crd c.1) (h6 : Crd c.2) :
    Calls Try.prog 41 #[.agg #[.int .i64 a.1, .int .i64 a.2], .agg #[.int .i64 b.1, .int .i64 b.2], .agg #[.int .i64 c.1, .int .i64 c.2]] w fun e w' => e = .returned (.bool (ndB a b c)) ∧ Below w.heap.size w w' := by
  unfold Crd at *
  have p1 := mul_bd (a := b.1 - a.1) (b := c.2 - b.2) (A := 8000) (B := 8000) (by omega) (by omega) (by omega) (by omega)
  have p2 := mul_bd (a := b.2 - a.2) (b := c.1 - b.1) (A := 8000) (B := 8000) (by omega) (by omega) (by omega) (by omega)
  have p3 := mul_bd (a := b.1 - a.1) (b := c.1 - b.1) (A := 8000) (B := 8000) (by omega) (by omega) (by omega) (by omega)
  have p4 := mul_bd (a := b.2 - a.2) (b := c.2 - b.2) (A := 8000) (B := 8000) (by omega) (by omega) (by omega) (by omega)
  go_enter Try.func41, Try.ntmps41
  go_wp2
  all_goals (go_ret; exact ⟨ret_bb (by rw [Bool.eq_iff_iff, ndB_iff]; simp_all [crossL, dotL]), (by repeat (first | exact Below.refl _ _ | assumption | refine Below.drew ?_ | refine Below.alloc ?_ (by first | exact Nat.le_refl _ | omega | (simp; done) | (simp; omega)) _ | refine Below.setCell ?_ (by first | exact Nat.le_refl _ | omega | (simp; done) | (simp; omega)) _))⟩)
set_option maxHeartbeats 1000000 in
theorem c_between (a b c : Pt) (w : World) (h1 : Crd a.1) (h2 : Crd a.2) (h3 : Crd b.1) (h4 : Crd b.2) (h5 : Crd c.1) (h6 : Crd c.2) :
    Calls Try.prog 19 #[.agg #[.int .i64 a.1, .int .i64 a.2], .agg #[.int .i64 b.1, .int .i64 b.2], .agg #[.int .i64 c.1, .int .i64 c.2]] w fun e w' => e = .returned (.bool (ndB a b c)) ∧ Below w.heap.size w w' := by
  have g1 := h1; have g2 := h2; have g3 := h3; have g4 := h4; have g5 := h5; have g6 := h6
  have hd : (a.1 - b.1) * (c.1 - b.1) + (a.2 - b.2) * (c.2 - b.2) = - dotL a b c := by
    unfold dotL
    rw [show a.1 - b.1 = -(b.1 - a.1) by omega, show a.2 - b.2 = -(b.2 - a.2) by omega, Int.neg_mul, Int.neg_mul]; omega
  have Hd := Lib.hid hd
  clear hd
  have K := Lib.hid (fun W => c_crossOf a b c W g1 g2 g3 g4 g5 g6)
  unfold Crd at h1 h2 h3 h4 h5 h6
  clear g1 g2 g3 g4 g5 g6
  have p3 := mul_bd (a := a.1 - b.1) (b := c.1 - b.1) (A := 8000) (B := 8000) (by omega) (by omega) (by omega) (by omega)
  have p4 := mul_bd (a := a.2 - b.2) (b := c.2 - b.2) (A := 8000) (B := 8000) (by omega) (by omega) (by omega) (by omega)
  go_enter Try.func19, Try.ntmps19
  go_wp2_with (go_at_call 39; (with_reducible refine (K.out _).mono ?_); rintro e w1 ⟨rfl, hb1⟩; obtain ⟨hc1, hf1⟩ := bcell hb1; have hz1 : w.heap.size + 2 < w1.heap.size := by have := hb1.size; (try simp at this); omega)
  · go_ret
    exact ⟨ret_bb (by have hd := Hd.out; have hc : crossL a b c = 0 := by assumption
                      rw [Bool.eq_iff_iff, ndB_iff, decide_eq_true_eq]; omega), Ext.trans (by repeat (first | exact Below.refl _ _ | assumption | refine Below.drew ?_ | refine Below.alloc ?_ (by first | exact Nat.le_refl _ | omega | (simp; done) | (simp; omega)) _ | refine Below.setCell ?_ (by first | exact Nat.le_refl _ | omega | (simp; done) | (simp; omega)) _)) hb1⟩
  · go_ret
    exact ⟨ret_bb (by have hc : ¬ crossL a b c = 0 := by assumption
                      simp [ndB, hc]), Ext.trans (by repeat (first | exact Below.refl _ _ | assumption | refine Below.drew ?_ | refine Below.alloc ?_ (by first | exact Nat.le_refl _ | omega | (simp; done) | (simp; omega)) _ | refine Below.setCell ?_ (by first | exact Nat.le_refl _ | omega | (simp; done) | (simp; omega)) _)) hb1⟩
def clean1 (ps : List Pt) : List Pt := match fstNd ps with | none => ps | some i => ps.eraseIdx i
/-- A slice that reads as points. -/
def RdPts (w w' : World) (e : Ending) (xs : List Pt) : Prop := ∃ A cap, e = .returned (.slice A xs.length cap) ∧ Pts w' A xs ∧ xs.length ≤ cap ∧ Below w.heap.size w w'
set_option maxRecDepth 100000 in
set_option maxHeartbeats 2000000 in
theorem c_cleaned (A : Option Addr) (cap : Nat) (ps : List Pt) (w : World) (h : Pts w A ps) (hcap : ps.length ≤ cap) (hv : psB ps = true) :
    Calls Try.prog 22 #[.slice A ps.length cap] w fun e w' => RdPts w w' e (clean1 ps) := by
  have hl := psB_len hv
  go_enter Try.func22, Try.ntmps22
  go_wp2
  go_loopw [4] (fun i wr => ∃ k : Nat, k ≤ ps.length ∧ i = .int .i64 k ∧ noNd ps k ∧ (1 < ps.length ∨ k = 0) ∧ Below w.heap.size w wr) (fun i _ => ps.length - (intOf i).toNat)
  case atStart => exact ⟨0, Nat.zero_le _, rfl, fun i hi => by omega, .inr rfl, Below.refl _ _⟩
  case round =>
    obtain ⟨k, hk, rfl, hno, h01, hbw⟩ := hrel
    have Hno := Lib.hid hno
    have hP := h.ext ptR_stab hbw
    have HP := Lib.hid hP
    clear hno h
    by_cases hc : k < ps.length ∧ 1 < ps.length
    · obtain ⟨hlt, h1⟩ := hc
      obtain ⟨b, off, rfl, _hb, hc⟩ := hP.pts (by omega)
      obtain ⟨m0, hm0⟩ : ∃ m, m = (k + ps.length - 1) % ps.length := ⟨_, rfl⟩
      obtain ⟨m1, hm1⟩ : ∃ m, m = (k + 1) % ps.length := ⟨_, rfl⟩
      have l0 : m0 < ps.length := by rw [hm0]; exact Nat.mod_lt _ (by omega)
      have l1 : m1 < ps.length := by rw [hm1]; exact Nat.mod_lt _ (by omega)
      have hnd : ndAt ps k = ndB ps[m0] ps[k] ps[m1] := by rw [ndAt_eq hlt]; simp only [hm0, hm1]
      obtain ⟨cx0, cy0⟩ := hc m0 l0
      obtain ⟨cx1, cy1⟩ := hc k hlt
      obtain ⟨cx2, cy2⟩ := hc m1 l1
      obtain ⟨bx0, by0⟩ := psB_crd hv l0
      obtain ⟨bx1, by1⟩ := psB_crd hv hlt
      obtain ⟨bx2, by2⟩ := psB_crd hv l1
      generalize ps[m0] = p0 at *
      generalize ps[k] = p1 at *
      generalize ps[m1] = p2 at *
      have f1 : IntKind.i64.wrap ((k : Int) + (ps.length : Int)) = (k : Int) + (ps.length : Int) := IntWalk.i64_in _ (by omega)
      have f2 : IntKind.i64.wrap ((k : Int) + (ps.length : Int) - 1) = (k : Int) + (ps.length : Int) - 1 := IntWalk.i64_in _ (by omega)
      have f3 : IntKind.i64.wrap ((k : Int) + 1) = (k : Int) + 1 := IntWalk.i64_in _ (by omega)
      have f4 : Int.tmod ((k : Int) + (ps.length : Int) - 1) (ps.length : Int) = (m0 : Int) := by
        rw [hm0, show (k : Int) + (ps.length : Int) - 1 = ((k + ps.length - 1 : Nat) : Int) by omega, tmod_nat]
      have f5 : Int.tmod ((k : Int) + 1) (ps.length : Int) = (m1 : Int) := by rw [hm1, show (k : Int) + 1 = ((k + 1 : Nat) : Int) by omega, tmod_nat]
      have i0 : (0 : Int) ≤ (m0 : Int) ∧ (m0 : Int) < (ps.length : Int) := by omega
      have i1 : (0 : Int) ≤ (k : Int) ∧ (k : Int) < (ps.length : Int) := by omega
      have i2 : (0 : Int) ≤ (m1 : Int) ∧ (m1 : Int) < (ps.length : Int) := by omega
      obtain ⟨i0a, i0b⟩ := i0
      obtain ⟨i1a, i1b⟩ := i1
      obtain ⟨i2a, i2b⟩ := i2
      have hne : ¬ ps = [] := by intro h; rw [h] at hlt; simp at hlt
      have Hnd := Lib.hid hnd
      have Hf := Lib.hid (And.intro f1 (And.intro f2 (And.intro f3 (And.intro f4 f5))))
      clear hnd hm0 hm1 hc f1 f2 f3 f4 f5 hv
      go_wp2_with fail
      obtain ⟨f1, f2, f3, f4, f5⟩ := Hf.out
      refine wp_region_calm [0,1,2,3,4,5,6,7,8,9,10,11,12,13,14,15,16,17,18,19,20] [] (by kernel_rfl) (by kernel_rfl) ?_
      iterate 20 ((refine calm_yes rfl rfl (fun w' hC => (by have cx0 := hC.cell cx0; have cy0 := hC.cell cy0; have cx1 := hC.cell cx1; have cy1 := hC.cell cy1; have cx2 := hC.cell cx2; have cy2 := hC.cell cy2; go_simp; rfl)) (fun K hK => ?_); go_simp; refine hK _ ?_; clear hK K))
      (apply calm_call rfl rfl rfl Try.func41 (by kernel_rfl) rfl (by go_simp; rfl); exact (fun w' hC => c_needless p0 p1 p2 w' bx0 by0 bx1 by1 bx2 by2); intro K hK; go_simp; refine hK _ ?_; clear hK K)
      refine calm_done (fun w1 hb1 => ?_)
      clear f1 f2 f3 f4 f5
      rw [← Hnd.out]
      have H1 := Lib.hid hb1
      obtain ⟨d, hd⟩ : ∃ d, d = ndAt ps k := ⟨_, rfl⟩
      rw [← hd]
      have Hd := Lib.hid hd
      clear hd hb1
      cases d
      · go_wp2
        go_roundw
        case rel => exact ⟨k + 1, by omega, by go_num, noNd_succ Hno.out Hd.out.symm, .inl h1, below_ext hbw H1.out⟩
        case measure => simp [intOf]; omega
      · have hfs := fstNd_some h1 hlt Hno.out Hd.out.symm
        have hcl : clean1 ps = ps.eraseIdx k := by unfold clean1; rw [hfs]
        have Hcl := Lib.hid hcl
        have hP1 := Lib.hid (HP.out.ext ptR_stab H1.out)
        have hs1 : ∀ W, (Instr.slice 23 (.slice (some ⟨b, off, none⟩) ps.length cap) none (some (.int .i64 (k : Int))) none).run Try.prog W = .ok (.slice (some ⟨b, off, none⟩) k cap) W := fun W => run_slice_hi ei_pt _ _ _ k _ rfl (by omega) W
        obtain ⟨o2, ho2, _⟩ := subA_some b off cap (k + 1) 2
        have hs2 : ∀ W, (Instr.slice 23 (.slice (some ⟨b, off, none⟩) ps.length cap) (some (.int .i64 ((k : Int) + 1))) none none).run Try.prog W = .ok (.slice (some ⟨b, o2, none⟩) (ps.length - (k + 1)) (cap - (k + 1))) W := fun W => by
          rw [← ho2]; exact run_slice_lo ei_pt _ _ _ (k + 1) _ (by omega) (by omega) W
        have hsub1 : Hid (∀ W, Ext w1 W → Src W (some ⟨b, off, none⟩) k 2 ((ps.take k).flatMap ptC)) := Lib.hid (fun W hW => by
          have := ((hP1.out.take k).ext ptR_stab hW).src ptC_len (fun x us h => h) ptC_one (by decide)
          rwa [List.length_take, Nat.min_eq_left (by omega)] at this)
        have hsub2 : Hid (∀ W, Ext w1 W → Src W (some ⟨b, o2, none⟩) (ps.length - (k + 1)) 2 ((ps.drop (k + 1)).flatMap ptC)) := Lib.hid (fun W hW => by
          have := ((hP1.out.sub (cap := cap) (lo := k + 1) (hi := ps.length) (by omega) (Nat.le_refl _) hcap).ext ptR_stab hW).src ptC_len (fun x us h => h) ptC_one (by decide)
          rw [ho2, List.take_length, List.length_drop] at this
          exact this)
        clear hfs hcl ho2 cx0 cy0 cx1 cy1 cx2 cy2 hP
        have f3 : IntKind.i64.wrap ((k : Int) + 1) = (k : Int) + 1 := Hf.out.2.2.1
        have HF3 := Lib.hid f3
        clear f3
        go_wp2_with fail
        have f3 := HF3.out
        refine wp_region_calm [1,2,3,5,6,7,8] [0,4,9,10] (by kernel_rfl) (by kernel_rfl) ?_
        iterate 7 ((refine calm_yes rfl rfl (fun w' hC => (by go_simp; rfl)) (fun K hK => ?_); go_simp; refine hK _ ?_; clear hK K))
        refine calm_nil (fun w2 hC2 => ?_)
        refine late_keep rfl rfl hC2 (fun w3 hx3 hC3 K hK => ?_)
        go_simp
        refine hK _ _ (Below.alloc hC3 hC3.size _) (fun hC4 => ?_)
        clear hK K
        refine late_keep rfl rfl hC4 (fun w5 hx5 hC5 K hK => ?_)
        have E3 : Ext w1 w3 := Ext.trans (ext_cls hC2) hx3
        have E5 : Ext w1 w5 := Ext.trans (Ext.trans E3 (ext_alloc _ _)) hx5
        have O5 : Has w5 w1.heap.size 30 2 (.slice (some ⟨w3.heap.size, 0, none⟩) 0 0) 0 [] := own_of_row (n := 0) (cs := []) ((Row.new w3 30 []).ext hx5) E3.size rfl (by decide)
        refine wp_app (base := w1.heap.size) ei_pt (.tmp 37) (.tmp 40) rfl rfl O5 rfl (hsub1.out w5 E5) (by omega) E5.size ?_
        intro v6 w6 hown6 hg6 hat6
        have hb6 := own_below E5 O5 hg6 E5.size
        refine hK _ _ (own_below (hC5 : Below w1.drew.heap.size w1.drew w5) O5 hg6 E5.size) (fun hC6 => ?_)
        clear hK K
        refine late_keep rfl rfl hC6 (fun w7 hx7 hC7 K hK => ?_)
        have hb7 : Ext w1 w7 := Ext.trans hb6 hx7
        have O7 := own_ext hown6 hx7
        refine wp_app (base := w1.heap.size) ei_pt (.tmp 41) (.tmp 45) rfl rfl O7 rfl (hsub2.out w7 hb7) (by omega) hb7.size ?_
        intro v8 w8 hown8 hg8 hat8
        have hb8 := own_below hb7 O7 hg8 hb7.size
        refine hK _ _ (own_below (hC7 : Below w1.drew.heap.size w1.drew w7) O7 hg8 hb7.size) (fun hC8 => ?_)
        clear hK K
        refine late_keep rfl rfl hC8 (fun w9 hx9 hC9 K hK => ?_)
        go_simp
        refine hK _ _ hC9 (fun hC10 => ?_)
        clear hK K
        refine late_nil (fun w10 hx10 => ?_)
        obtain ⟨A8, cap8, hv8⟩ := own_form hown8
        subst hv8
        have O10 : Hid (Has w10 w1.heap.size 30 2 (.slice A8 (ps.eraseIdx k).length cap8) (ps.eraseIdx k).length ((ps.eraseIdx k).flatMap ptC)) := Lib.hid (by
          have q := own_ext hown8 (Ext.trans hx9 hx10)
          rw [List.nil_append, ← List.flatMap_append, ← List.eraseIdx_eq_take_drop_succ] at q
          have e : 0 + k + (ps.length - (k + 1)) = (ps.eraseIdx k).length := by rw [List.length_eraseIdx_of_lt hlt]; omega
          rw [e] at q; exact q)
        have e : 0 + k + (ps.length - (k + 1)) = (ps.eraseIdx k).length := by rw [List.length_eraseIdx_of_lt hlt]; omega
        have He := Lib.hid e
        have hfin : Hid (Ext w w10) := Lib.hid (Ext.trans (below_ext hbw H1.out) (Ext.trans hb8 (Ext.trans hx9 hx10)))
        clear e hown8 hown6 hg6 hg8 hat6 hat8 hb6 hb7 hb8 hx3 hx5 hx7 hx9 hx10 hC2 hC3 hC4 hC5 hC6 hC7 hC8 hC9 hC10 E3 E5 O5 O7 hs1 hs2 f3 hsub1 hsub2
        go_wp2
        go_ret
        rw [Hcl.out]
        exact ⟨A8, cap8, by simp only [He.out]; rfl, own_in (enc := ptC) ptC_len (by decide) O10.out (fun _ => rfl), O10.out.slok.2.1, hfin.out⟩
    · have hfs : fstNd ps = none := by
        refine fstNd_none ?_
        rcases Nat.lt_or_ge 1 ps.length with h1 | h1
        · right
          have : k = ps.length := by omega
          rw [← this]; exact Hno.out
        · exact .inl h1
      have hcl : Hid (clean1 ps = ps) := Lib.hid (by unfold clean1; rw [hfs])
      have hcc : (¬ (k : Int) < (ps.length : Int)) ∨ ((k : Int) < (ps.length : Int) ∧ ¬ (1 : Int) < (ps.length : Int)) := by omega
      clear hfs hc hP hv
      rcases hcc with hcc | ⟨hcc, hcd⟩
      all_goals
        go_wp2
        go_ret
        rw [hcl.out]
        exact ⟨A, cap, rfl, HP.out, hcap, hbw⟩
def slLen : Value → Nat
  | .slice _ n _ => n
  | _ => 0
theorem clean1_lt {ps : List Pt} {i : Nat} (h : fstNd ps = some i) : (clean1 ps).length + 1 = ps.length := by
  have := (fstNd_lt h).1
  unfold clean1; rw [h]; simp only; rw [List.length_eraseIdx_of_lt this]; omega
theorem clean1_len {ps : List Pt} : (clean1 ps).length = ps.length ↔ fstNd ps = none := by
  cases h : fstNd ps with
  | none => simp [clean1, h]
  | some i => have := clean1_lt h; constructor <;> intro hh <;> first | omega | cases hh
theorem clean1_le {ps : List Pt} : (clean1 ps).length ≤ ps.length := by
  cases h : fstNd ps with
  | none => simp [clean1, h]
  | some i => have := clean1_lt h; omega
theorem cleanL_1 (ps : List Pt) : cleanL (clean1 ps) = cleanL ps := by
  cases h : fstNd ps with
  | none => simp [clean1, h]
  | some i => rw [cleanL_some h]; simp [clean1, h]
theorem psB_1 {ps : List Pt} (h : psB ps = true) : psB (clean1 ps) = true := by
  unfold clean1
  split
  · exact h
  · exact psB_erase h _
set_option maxHeartbeats 2000000 in
theorem c_sCleanRing (A : Option Addr) (cap : Nat) (ps : List Pt) (w : World) (h : Pts w A ps) (hl : ps.length ≤ 1048576) :
    Calls Try.prog 8 #[.slice A ps.length cap] w fun e w' => ∃ A' cap', e = .returned (.slice A' (cleanR ps).length cap') ∧ Pts w' A' (cleanR ps) ∧ Below w.heap.size w w' := by
  by_cases hv : psB ps = true
  · have hl40 := psB_len hv
    by_cases hn : ps.length = 0
    · have hnil : ps = [] := List.eq_nil_of_length_eq_zero hn
      subst hnil
      go_enter Try.func8, Try.ntmps8
      go_wp2_with (go_at_call 21; refine (c_validPoints A cap [] _ h (by simp)).mono ?_; rw [hv]; rintro e w0 ⟨rfl, hb0⟩)
      go_ret
      exact ⟨none, 0, rfl, In.of_nil, hb0⟩
    · have hb1 : (((ps.length : Nat) : Int) == 0) = false := by simp; intro hh; subst hh; simp at hn
      have hR : Hid (cleanR ps = cleanL ps) := Lib.hid (by simp [cleanR, hv])
      have hne : ¬ ps = [] := by intro hh; subst hh; simp at hn
      have Hn := Lib.hid hn
      clear hn
      go_enter Try.func8, Try.ntmps8
      go_wp2_with fail
      refine (c_validPoints A cap ps _ h (by omega)).mono ?_; rw [hv]; rintro e w0 ⟨rfl, hb0⟩
      have Hv := Lib.hid hv
      have hs := (h.ext ptR_stab hb0).src ptC_len (fun x us h => h) ptC_one (by decide)
      have Hb0 := Lib.hid hb0
      clear hv hb0
      go_wp2_with (at_builtin; refine wpList_app (base := w.heap.size) ei_pt rfl (.tmp 13) (.tmp 14) rfl rfl (own_of_row (n := 0) (cs := []) (Row.new w0 _ []) Hb0.out.size rfl (by decide)) rfl (hs.ext (ext_alloc _ _)) (by omega) (by have := Hb0.out.size; simp; omega) ?_; intro v2 w3 hown3 hg3 hat3)
      obtain ⟨A2, cap2, hv2⟩ := own_form hown3
      subst hv2
      have hb3 : Hid (Below w.heap.size w w3) := Lib.hid (own_below (Ext.trans Hb0.out (ext_alloc w0 _)) (own_of_row (n := 0) (sz := 2) (cs := []) (Row.new w0 30 []) Hb0.out.size rfl (by decide)) hg3 (by have := Hb0.out.size; simp; omega))
      rw [List.nil_append, Nat.zero_add] at hown3
      have hP3 := Lib.hid (own_in (R := ptR) (enc := ptC) ptC_len (by decide) hown3 (fun _ => rfl))
      have hcap3 := hown3.slok.2.1
      clear hown3 hg3 hat3 hs h
      go_wp2_with fail
      rw [Nat.zero_add]
      go_loopw [3] (fun v wr => ∃ (A : Option Addr) (cap : Nat) (xs : List Pt), v = .slice A xs.length cap ∧ Pts wr A xs ∧ xs.length ≤ cap ∧ psB xs = true ∧ cleanL xs = cleanL ps ∧ Below w.heap.size w wr) (fun v _ => slLen v)
      case atStart => exact ⟨A2, cap2, ps, rfl, hP3.out, by omega, Hv.out, rfl, hb3.out⟩
      case round =>
        obtain ⟨A, cap, xs, rfl, hP, hc, hv, hcl, hbw⟩ := hrel
        have hx := psB_len hv
        have Hcl := Lib.hid hcl
        have Hv := Lib.hid hv
        have Hlen := Lib.hid (@clean1_len xs)
        have hle := @clean1_le xs
        clear hcl
        go_wp2_with fail
        refine (c_cleaned A cap xs wr hP hc hv).mono ?_
        rintro e w1 ⟨A1, cap1, rfl, hP1, hc1, hb1⟩
        have HP1 := Lib.hid hP1
        have HP := Lib.hid (hP.ext ptR_stab hb1)
        have HB1 := Lib.hid (below_ext hbw hb1)
        clear hP1 hP hb1 hv
        by_cases hlen : (clean1 xs).length = xs.length
        · have hb1 : ((((clean1 xs).length : Nat) : Int) == ((xs.length : Nat) : Int)) = true := by simp [hlen]
          have hfin : Hid (cleanR ps = xs) := Lib.hid (by rw [hR.out, ← Hcl.out, cleanL_none (Hlen.out.1 hlen)])
          clear hlen
          go_wp2
          go_ret
          rw [hfin.out]
          exact ⟨A, cap, rfl, HP.out, HB1.out⟩
        · have hb1 : ((((clean1 xs).length : Nat) : Int) == ((xs.length : Nat) : Int)) = false := by simp; omega
          go_wp2
          go_roundw
          case rel => exact ⟨A1, cap1, clean1 xs, rfl, HP1.out, hc1, psB_1 Hv.out, by rw [cleanL_1, Hcl.out], HB1.out⟩
          case measure => simp [slLen]; omega
  · simp only [Bool.not_eq_true] at hv
    go_enter Try.func8, Try.ntmps8
    go_wp2_with (go_at_call 21; refine (c_validPoints A cap ps _ h (by omega)).mono ?_; rw [hv]; rintro e w0 ⟨rfl, hb0⟩)
    go_ret
    have hR : cleanR ps = [] := by simp [cleanR, hv]
    rw [hR]
    exact ⟨none, 0, rfl, In.of_nil, hb0⟩
theorem zeroPt (w : World) : (zeroValue 30).run Try.prog w = .ok (.agg #[.int .i64 0, .int .i64 0]) w := by kernel_rfl
set_option maxRecDepth 100000 in
set_option maxHeartbeats 2000000 in
theorem c_Delete (g cap i : Nat) (xs : List Pt) (w : World) (B : Nat) (h : Has w B 30 2 (.slice (some ⟨g, 0, none⟩) xs.length cap) xs.length (xs.flatMap ptC)) (hi : i < xs.length) (hn : xs.length ≤ 1000000) (hB : B ≤ w.heap.size) :
    Calls Try.prog 20 #[.slice (some ⟨g, 0, none⟩) xs.length cap, .int .i64 (i : Int), .int .i64 ((i : Int) + 1)] w fun e w' =>
      e = .returned (.slice (some ⟨g, 0, none⟩) (xs.eraseIdx i).length cap) ∧ Has w' B 30 2 (.slice (some ⟨g, 0, none⟩) (xs.eraseIdx i).length cap) (xs.eraseIdx i).length ((xs.eraseIdx i).flatMap ptC) ∧ Below B w w' := by
  obtain ⟨-, hc1, hc2⟩ := h.slok
  unfold maxLen at hc2
  have hlen : (xs.eraseIdx i).length = xs.length - 1 := List.length_eraseIdx_of_lt hi
  obtain ⟨o1, ho1, _⟩ := subA_some g 0 xs.length i 2
  obtain ⟨o2, ho2, ho2'⟩ := subA_some g 0 cap (i + 1) 2
  obtain ⟨o3, ho3, ho3'⟩ := subA_some g 0 cap (xs.length - 1) 2
  have hs1 : ∀ W, (Instr.slice 23 (.slice (some ⟨g, 0, none⟩) xs.length cap) (some (.int .i64 (i : Int))) (some (.int .i64 ((i : Int) + 1))) (some (.int .i64 (xs.length : Int)))).run Try.prog W = .ok (.slice (some ⟨g, o1, none⟩) (i + 1 - i) (xs.length - i)) W := fun W => by
    rw [← ho1]; exact run_slice3 ei_pt _ _ _ i (i + 1) xs.length _ _ _ rfl (by omega) rfl (by omega) (by omega) (by omega) W
  have hs2 : ∀ W, (Instr.slice 23 (.slice (some ⟨g, 0, none⟩) xs.length cap) none (some (.int .i64 (i : Int))) none).run Try.prog W = .ok (.slice (some ⟨g, 0, none⟩) i cap) W := fun W => run_slice_hi ei_pt _ _ _ i _ rfl (by omega) W
  have hs3 : ∀ W, (Instr.slice 23 (.slice (some ⟨g, 0, none⟩) xs.length cap) (some (.int .i64 ((i : Int) + 1))) none none).run Try.prog W = .ok (.slice (some ⟨g, o2, none⟩) (xs.length - (i + 1)) (cap - (i + 1))) W := fun W => by
    rw [← ho2]; exact run_slice_lo ei_pt _ _ _ (i + 1) _ (by omega) (by omega) W
  have hs4 : ∀ W, (Instr.slice 23 (.slice (some ⟨g, 0, none⟩) (xs.length - 1) cap) (some (.int .i64 (((xs.length - 1 : Nat) : Nat) : Int))) (some (.int .i64 (xs.length : Int))) none).run Try.prog W = .ok (.slice (some ⟨g, o3, none⟩) (xs.length - (xs.length - 1)) (cap - (xs.length - 1))) W := fun W => by
    rw [← ho3]; exact run_slice2 ei_pt _ _ _ (xs.length - 1) xs.length _ _ rfl rfl (by omega) (by omega) W
  have hb : ((i : Int) == (i : Int) + 1) = false := by simp; omega
  have HS4 := Lib.hid hs4
  have HO3 := Lib.hid ho3'
  have H := Lib.hid h
  have hsrc : Hid (∀ W, Ext w W → Src W (some ⟨g, o2, none⟩) (xs.length - (i + 1)) 2 ((xs.drop (i + 1)).flatMap ptC)) := Lib.hid (fun W hW => by
    have hP := own_in (enc := ptC) ptC_len (by decide) h (fun _ => rfl) (R := ptR)
    have := ((hP.sub (cap := cap) (lo := i + 1) (hi := xs.length) (by omega) (Nat.le_refl _) hc1).ext ptR_stab hW).src ptC_len (fun x us h => h) ptC_one (by decide)
    rw [ho2, List.take_length, List.length_drop] at this
    exact this)
  have Hlen := Lib.hid hlen
  have Ho := Lib.hid (And.intro ho1 (And.intro ho2 (And.intro ho3 ho2')))
  clear h hs4 ho3' hlen ho1 ho2 ho3 ho2'
  go_enter Try.func20, Try.ntmps20
  go_wp2_with fail
  refine wp_region_calm [0,1,2,3,4,5] [6,7] (by kernel_rfl) (by kernel_rfl) ?_
  iterate 6 ((refine calm_yes rfl rfl (fun w' hC => (by go_simp; rfl)) (fun K hK => ?_); go_simp; refine hK _ ?_; clear hK K))
  refine calm_nil (fun w2 hC2 => ?_)
  refine late_free (by kernel_rfl) rfl rfl (fun w3 hx3 K hK => ?_)
  have E3 : Ext w w3 := Ext.trans (ext_cls hC2) hx3
  have O3 := own_ext (H.out.prefix_ (m := i) (by omega)) E3
  refine wp_app_in (r := xs.length - 1) ei_pt (.tmp 22) (.tmp 25) rfl rfl O3 rfl (hsrc.out w3 E3) (by omega) (by omega) ?_
  intro w4 hown4 hg4
  have hb4 := own_below (B := B) (Below.mono E3 hB) O3 hg4 (by have := E3.size; omega)
  refine hK _ _ ?_
  clear hK K
  refine late_free (by kernel_rfl) rfl rfl (fun w5 hx5 K hK => ?_)
  go_simp
  refine hK _ _ ?_
  clear hK K
  refine late_nil (fun w6 hx6 => ?_)
  have E46 := Ext.trans hx5 hx6
  have hown6 := own_ext hown4 E46
  have hb6 : Below B w w6 := Below.trans hb4 (Below.mono E46 (by have := hb4.size; omega))
  obtain ⟨w7, hrun7, hown7, hg7⟩ := run_clear_behind (m := xs.length - (xs.length - 1)) (c := cap - (xs.length - 1)) (o' := o3) ei_pt hown6 (fun _ => by have := HO3.out (by omega); simpa using this) (by omega) (by intro u hu; simp at hu; subst hu; rfl) zeroPt
  have hb7 := own_below (B := B) hb6 hown6 hg7 (by have := hb6.size; omega)
  have hfin : Hid (Has w7 B 30 2 (.slice (some ⟨g, 0, none⟩) (xs.eraseIdx i).length cap) (xs.eraseIdx i).length ((xs.eraseIdx i).flatMap ptC)) := Lib.hid (by
    have e : ((xs.flatMap ptC).take (i * 2)) ++ (xs.drop (i + 1)).flatMap ptC = (xs.eraseIdx i).flatMap ptC := by
      rw [List.eraseIdx_eq_take_drop_succ, List.flatMap_append]
      congr 1
      have := flat_take ptC_len xs i (by omega)
      exact this
    rw [Hlen.out, ← e]; exact hown7)
  have Hb7 := Lib.hid hb7
  have hs4 := HS4.out
  clear hown6 hown7 hg7 hb6 hb7 hs1 hs2 hs3 hx3 hx5 hx6 E3 E46 O3 hown4 hg4 hb4 hC2 hb
  go_wp2_with fail
  go_ret
  exact ⟨by rw [Hlen.out]; rfl, hfin.out, Hb7.out⟩
end Go.Proofs.Ythfnomlkoiacbaa
