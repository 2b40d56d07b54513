/-
  Several texts in one: Mark, Verb, Shape, Clone, Open, Slice, ClipR, Shape2, Box.
-/
import Derived.Test.YtagmnbphbakikaaGreatMg2
import Derived.Test.YtagmnbphbakikaaGreatMg1
import Derived.ProofKit
import Derived.OpenShut
import Derived.ShutString
import Derived.ChangeOld
import Derived.Deep.Slices
import Derived.Deep.Fields
import Derived.ChangeSame
import Derived.Laws.CopyRow
namespace Go.Proofs.YtagmnbphbakikaaGreat
open Go Go.RowKit Reg
set_option maxHeartbeats 1000000 in
theorem c_markPointS {w : World} {B : Nat} {A : Option Addr} {n cap : Nat} {xs : List Value} (hown : Has w B 45 2 (.slice A n cap) n xs) (k : Int) (h0 : 0 ≤ k) (h1 : k ≤ 1000000000000) (hn : n ≤ 1000000000000) :
    Calls Tryz.prog 89 #[.slice A n cap, .int .i64 k] w fun e w' => e = .returned (.int .i64 (k + 2 * n)) ∧ Has w' B 45 2 (.slice A n cap) n ((mkP k n).flatMap ptC) ∧ w.grownBy w' (Value.slice A n cap).ownBlock := by
  have hlen := hown.1
  go_enter Tryz.func89, Tryz.ntmps89
  go_wp2
  go_loopw [1, 5] (fun kk i wr => ∃ j : Nat, j ≤ n ∧ i = .int .i64 j ∧ kk = .int .i64 (k + 2 * j) ∧ Has wr B 45 2 (.slice A n cap) n (mkd k (2 * j) xs) ∧ w.grownBy wr (Value.slice A n cap).ownBlock) (fun _ i _ => n - (intOf i).toNat)
  case atStart => exact ⟨0, Nat.zero_le _, rfl, by simp, by rw [Nat.mul_zero, mkd_zero]; exact hown, only_refl _ _⟩
  case round =>
    obtain ⟨j, hj, rfl, rfl, how, hgr⟩ := hrel
    by_cases hlt : j < n
    · obtain ⟨g, rfl, _, hg⟩ := own_at how (by omega)
      have c0 : wr.cell? ⟨g, j * 2, none⟩ = some ((mkd k (2 * j) xs)[j * 2]'(by rw [how.1]; omega)) := by rw [how.cellAt _ (by omega)]; exact List.getElem?_eq_getElem _
      have c1 : wr.cell? ⟨g, j * 2 + 1, none⟩ = some ((mkd k (2 * j) xs)[j * 2 + 1]'(by rw [how.1]; omega)) := by rw [how.cellAt _ (by omega)]; exact List.getElem?_eq_getElem _
      generalize (mkd k (2 * j) xs)[j * 2]'(by rw [how.1]; omega) = o0 at c0
      generalize (mkd k (2 * j) xs)[j * 2 + 1]'(by rw [how.1]; omega) = o1 at c1
      have f0 := how.frozenAt (j * 2)
      have f1 := how.frozenAt (j * 2 + 1)
      have st := (how.stored (j * 2) (.int .i64 (k + 2 * j))).1.stored (j * 2 + 1) (.int .i64 (k + 2 * j + 1))
      have hnew : ((mkd k (2 * j) xs).set (j * 2) (.int .i64 (k + 2 * (j : Int)))).set (j * 2 + 1) (.int .i64 (k + 2 * (j : Int) + 1)) = mkd k (2 * (j + 1)) xs := by
        have e1 : j * 2 = 2 * j := by omega
        have e2 : 2 * (j + 1) = 2 * j + 1 + 1 := by omega
        have q1 := mkd_set (k := k) (m := 2 * j) (xs := xs) (by omega)
        have q2 := mkd_set (k := k) (m := 2 * j + 1) (xs := xs) (by omega)
        have e4 : k + 2 * (j : Int) + 1 = k + ((2 * j + 1 : Nat) : Int) := by push_cast; omega
        have e3 : k + 2 * (j : Int) = k + ((2 * j : Nat) : Int) := by push_cast; omega
        rw [e1, e2, e4, e3, q1, q2]
      rw [hnew] at st
      have Hst := Lib.hid st.1
      have Hgr := Lib.hid (only_set (only_set hgr (j * 2) (.int .i64 (k + 2 * j))) (j * 2 + 1) (.int .i64 (k + 2 * j + 1)))
      clear st hnew how hgr hown
      go_wp2
      go_roundw
      case rel => exact ⟨j + 1, by omega, by go_num, by congr 1; push_cast; omega, Hst.out, Hgr.out⟩
      case measure => simp [intOf]; omega
    · obtain rfl : j = n := by omega
      rw [mkd_all (by omega), ← mkP_flat] at how
      go_wp2
      go_ret
      exact ⟨rfl, how, hgr⟩
end Go.Proofs.YtagmnbphbakikaaGreat
namespace Go.Proofs.YtagmnbphbakikaaGreat
open Go Go.RowKit Reg
attribute [local go_sem] calmAt calmUpon
set_option maxHeartbeats 1000000 in
theorem c_eqVerb (a b : Int) (A A' : Option Addr) (cap cap' : Nat) (ps qs : List Pt) (w : World) (h : Pts w A ps) (h' : Pts w A' qs) (hl : ps.length ≤ 1000000000000) (hl' : qs.length ≤ 1000000000000) :
    Calls Tryz.prog 85 #[.agg #[.int .i64 a, .slice A ps.length cap], .agg #[.int .i64 b, .slice A' qs.length cap']] w fun e w' => e = .returned (.bool (vbEq (a, ps) (b, qs))) ∧ Below w.heap.size w w' := by
  by_cases hab : a = b
  · have hb1 : (a != b) = false := by simp [hab]
    have Hab := Lib.hid hab
    clear hab
    obtain ⟨d, hd⟩ : ∃ d, d = decide (ps = qs) := ⟨_, rfl⟩
    have Hd := Lib.hid hd
    clear hd
    cases d
    all_goals
      go_enter Tryz.func85, Tryz.ntmps85
      go_wp2_with fail
      refine (c_eqPointS A A' cap cap' ps qs _ (h.ext ptR_stab (by repeat (first | exact Below.refl _ _ | assumption | refine Below.drew ?_ | refine Below.alloc ?_ (by first | exact Nat.le_refl _ | omega | (simp; done) | (simp; omega)) _ | refine Below.setCell ?_ (by first | exact Nat.le_refl _ | omega | (simp; done) | (simp; omega)) _))) (h'.ext ptR_stab (by repeat (first | exact Below.refl _ _ | assumption | refine Below.drew ?_ | refine Below.alloc ?_ (by first | exact Nat.le_refl _ | omega | (simp; done) | (simp; omega)) _ | refine Below.setCell ?_ (by first | exact Nat.le_refl _ | omega | (simp; done) | (simp; omega)) _))) (by omega) (by omega)).mono ?_; rw [← Hd.out]; rintro e w1 ⟨rfl, hb⟩
      have hb2 : Below w.heap.size w w1 := Ext.trans (by repeat (first | exact Below.refl _ _ | assumption | refine Below.drew ?_ | refine Below.alloc ?_ (by first | exact Nat.le_refl _ | omega | (simp; done) | (simp; omega)) _ | refine Below.setCell ?_ (by first | exact Nat.le_refl _ | omega | (simp; done) | (simp; omega)) _)) hb
      go_wp2
      go_ret
      exact ⟨ret_b (by have h1 := Hd.out; have h2 := Hab.out; subst h2; simpa using h1), hb2⟩
  · have hb1 : (a != b) = true := by simp [hab]
    go_enter Tryz.func85, Tryz.ntmps85
    go_wp2
    go_ret
    exact ⟨ret_b (by simp [hab]), (by repeat (first | exact Below.refl _ _ | assumption | refine Below.drew ?_ | refine Below.alloc ?_ (by first | exact Nat.le_refl _ | omega | (simp; done) | (simp; omega)) _ | refine Below.setCell ?_ (by first | exact Nat.le_refl _ | omega | (simp; done) | (simp; omega)) _))⟩
set_option maxHeartbeats 1000000 in
theorem c_eqVerbS (A A' : Option Addr) (cap cap' : Nat) (ps qs : List Vb) (w : World) (h : Vbs w A ps) (h' : Vbs w A' qs) (hl : ps.length ≤ 1000000000000) (hl' : qs.length ≤ 1000000000000)
    (hs : ∀ v ∈ ps, v.2.length ≤ 1000000000000) (hs' : ∀ v ∈ qs, v.2.length ≤ 1000000000000) :
    Calls Tryz.prog 44 #[.slice A ps.length cap, .slice A' qs.length cap'] w fun e w' => e = .returned (.bool (decide (ps = qs))) ∧ Below w.heap.size w w' := by
  by_cases hlen : ps.length = qs.length
  · go_enter Tryz.func44, Tryz.ntmps44
    have hne : (((ps.length : Nat) : Int) != ((qs.length : Nat) : Int)) = false := by simp [hlen]
    have Hlen := Lib.hid hlen
    have Hs := Lib.hid hs
    have Hs' := Lib.hid hs'
    clear hlen hs hs'
    go_wp2
    go_loopw [5] (fun i wr => ∃ k : Nat, k ≤ ps.length ∧ i = .int .i64 k ∧ ps.take k = qs.take k ∧ Below w.heap.size w wr) (fun i _ => ps.length - (intOf i).toNat)
    case atStart => exact ⟨0, Nat.zero_le _, rfl, by simp, Below.refl _ _⟩
    case round =>
      obtain ⟨k, hk, rfl, hal, hbw⟩ := hrel
      have hal' := Lib.hid hal
      clear hal
      by_cases hlt : k < ps.length
      · have hlt' : k < qs.length := by have := Hlen.out; omega
        obtain ⟨b, off, rfl, _hb, hc⟩ := (h.ext verbR_stab hbw).vbs (by omega)
        obtain ⟨b', off', rfl, _hb', hc'⟩ := (h'.ext verbR_stab hbw).vbs (by omega)
        obtain ⟨A1, cap1, cx, cy, hp⟩ := hc k hlt
        obtain ⟨A2, cap2, cx', cy', hp'⟩ := hc' k hlt'
        have z1 : ps[k].2.length ≤ 1000000000000 := Hs.out _ (List.getElem_mem hlt)
        have z2 : qs[k].2.length ≤ 1000000000000 := Hs'.out _ (List.getElem_mem hlt')
        have Hk1 := Lib.hid (take_eq_succ hal'.out hlt hlt' : ps[k] = qs[k] → ps.take (k + 1) = qs.take (k + 1))
        have Hk2 := Lib.hid (ne_of_at hlt hlt' : ps[k] ≠ qs[k] → ps ≠ qs)
        clear h hc h' hc'
        generalize ps[k] = p at *
        generalize qs[k] = q at *
        obtain ⟨a, p⟩ := p
        obtain ⟨a', q⟩ := q
        dsimp only at cx cy cx' cy' hp hp' z1 z2
        go_wp2_with fail
        refine wp_region_calm [0,1,2,3,4,5,6,7,8,9] [] (by kernel_rfl) (by kernel_rfl) ?_
        iterate 8 ((refine calm_yes rfl rfl (fun w' hC => (by have cx := hC.cell cx; have cy := hC.cell cy;  have cx' := hC.cell cx'; have cy' := hC.cell cy'; go_simp; rfl)) (fun K hK => ?_); go_simp; refine hK _ ?_; clear hK K))
        (apply calm_call rfl rfl rfl Tryz.func85 (by kernel_rfl) rfl (by go_simp; rfl); exact (fun w' hC => c_eqVerb a a' A1 A2 cap1 cap2 p q w' (hp.ext ptR_stab (Below.trans (Below.refl _ wr).drew hC)) (hp'.ext ptR_stab (Below.trans (Below.refl _ wr).drew hC)) z1 z2); intro K hK; go_simp; refine hK _ ?_; clear hK K)
        (refine calm_yes rfl rfl (fun w' hC => (by go_simp; rfl)) (fun K hK => ?_); go_simp; refine hK _ ?_; clear hK K)
        refine calm_done (fun w1 hb1 => ?_)
        obtain ⟨d, hd⟩ : ∃ d, d = vbEq (a, p) (a', q) := ⟨_, rfl⟩
        rw [← hd]
        have Hd := Lib.hid hd
        clear hd
        cases d
        · have hpq : ps ≠ qs := Hk2.out (by have := Hd.out; simpa [vbEq] using this.symm)
          go_wp2
          go_ret
          exact ⟨ret_b (by simp [hpq]), below_ext hbw hb1⟩
        · go_wp2
          go_roundw
          case rel => exact ⟨k + 1, by omega, by go_num, Hk1.out (vbEq_iff.1 Hd.out.symm), below_ext hbw hb1⟩
          case measure => simp [intOf]; omega
      · have hk' : ps = qs := eq_of_take hal'.out (by omega) (by have := Hlen.out; omega)
        have Hk' := Lib.hid hk'
        clear h h' hk'
        go_wp2
        go_ret
        exact ⟨ret_b (by simp [Hk'.out]), hbw⟩
  · have hne : (((ps.length : Nat) : Int) != ((qs.length : Nat) : Int)) = true := by simp; omega
    have hpq : ps ≠ qs := fun h => hlen (by rw [h])
    go_enter Tryz.func44, Tryz.ntmps44
    go_wp2
    go_ret
    exact ⟨ret_b (by simp [hpq]), Below.refl _ _⟩
theorem TP_ne_TV : (45 : TypeId) ≠ 128 := by decide
set_option maxHeartbeats 1000000 in
theorem c_markVerbS {w : World} {B : Nat} {A : Option Addr} {cap : Nat} {vs : List Vb} {ss : List Value} (hown : OVb w B 45 128 (.slice A vs.length cap) vs ss) (hB : B ≤ w.heap.size)
    (hn : vs.length ≤ 100000) (hs : ∀ v ∈ vs, v.2.length ≤ 1000000) :
    Calls Tryz.prog 47 #[.slice A vs.length cap, .int .i64 1] w fun e w' => e = .returned (.int .i64 (endV 1 vs)) ∧ OVb w' B 45 128 (.slice A vs.length cap) (markV 1 vs) ss ∧ Below B w w' := by
  go_enter Tryz.func47, Tryz.ntmps47
  go_wp2
  have Hs := Lib.hid hs
  have Hown := Lib.hid hown
  clear hs hown
  go_loopw [1, 5] (fun kk i wr => ∃ j : Nat, j ≤ vs.length ∧ i = .int .i64 j ∧ kk = .int .i64 (endV 1 (vs.take j)) ∧ OVb wr B 45 128 (.slice A vs.length cap) (mV 1 j vs) ss ∧ Below B w wr) (fun _ i _ => vs.length - (intOf i).toNat)
  case atStart => exact ⟨0, Nat.zero_le _, rfl, rfl, by rw [mV_zero]; exact Hown.out, Below.refl _ _⟩
  case round =>
    obtain ⟨j, hj, rfl, rfl, how, hbw⟩ := hrel
    have hz := hbw.size
    have hbd := endV_bd 1 (vs.take j) (fun v hv => Hs.out v (List.mem_of_mem_take hv))
    rw [List.length_take] at hbd
    have hml := mV_len 1 j vs
    by_cases hlt : j < vs.length
    · have Hset := Lib.hid (mV_set (k := 1) hlt)
      have Hlen := Lib.hid how.len
      have Hend : Hid (endV 1 (vs.take (j + 1)) = endV 1 (vs.take j) + 1 + 2 * (vs[j].2.length : Int)) := by rw [List.take_succ_eq_append_getElem hlt, endV_snoc]; exact Lib.hid rfl
      have zj : vs[j].2.length ≤ 1000000 := Hs.out _ (List.getElem_mem hlt)
      generalize hkj : endV 1 (vs.take j) = kj at *
      clear hkj
      rw [← hml] at how
      have hjm : j < (mV 1 j vs).length := by omega
      obtain ⟨g, hA, _, hg⟩ := own_at how.out (by omega)
      subst hA
      obtain ⟨z0, z1⟩ := zipC_get how.len hjm
      have c0 := (how.out.cellAt (j * 2) (by omega)).trans z0
      have c1 := (how.out.cellAt (j * 2 + 1) (by omega)).trans z1
      have f0 := how.out.frozenAt (j * 2)
      have hk1 := how.kind TP_ne_TV hjm kj
      have hinn := hk1.inn j (by simpa using hjm)
      obtain ⟨A1, cap1, hs1⟩ := own_form hinn
      have hl1 : ((mV 1 j vs).set j (kj, (mV 1 j vs)[j].2))[j]'(by simpa using hjm) = (kj, vs[j].2) := by rw [List.getElem_set_self, mV_get hlt]
      rw [hl1] at hs1 hinn
      rw [hs1] at c1
      have hown1 : Has (wr.setCell ⟨g, j * 2, none⟩ (.int .i64 kj)) B 45 2 (.slice A1 vs[j].2.length cap1) vs[j].2.length (vs[j].2.flatMap ptC) := by rw [hs1] at hinn; exact hinn
      have hjs : j < ss.length := by rw [Hlen.out]; exact hjm
      have Hs1 : Hid (ss[j] = .slice A1 vs[j].2.length cap1) := Lib.hid hs1
      have hk2 : OVb (wr.setCell ⟨g, j * 2, none⟩ (.int .i64 kj)) B 45 128 (.slice (some ⟨g, 0, none⟩) vs.length cap) ((mV 1 j vs).set j (kj, vs[j].2)) ss := by simpa only [hml, mV_get hlt] using hk1
      have Hk2 := Lib.hid hk2
      have Hown1 := Lib.hid hown1
      have Hml := Lib.hid hml
      clear z0 z1 hinn hl1 how hk1 hk2 hs1 hown1 hml
      have ebw : Below B w (wr.setCell ⟨g, j * 2, none⟩ (.int .i64 kj)) := hbw.setCell (by omega) _
      go_wp2_with (go_at_call 89; refine (c_markPointS Hown1.out (kj + 1) (by omega) (by omega) (by omega)).mono ?_; rintro e w1 ⟨rfl, ho1, hg1⟩)
      have hfin : OVb w1 B 45 128 (.slice (some ⟨g, 0, none⟩) vs.length cap) (mV 1 (j + 1) vs) ss := by
        have hk3 := Hk2.out
        have hjl : j < ((mV 1 j vs).set j (kj, vs[j].2)).length := by rw [List.length_set, Hml.out]; exact hlt
        have hlast := hk3.pts TP_ne_TV hjl (ps := mkP (kj + 1) vs[j].2.length) (w' := w1) (by rw [Hs1.out, mkP_len]; exact ho1) (by rw [Hs1.out]; exact hg1)
        rw [List.getElem_set_self, List.set_set] at hlast
        rw [← Hset.out]
        exact hlast
      have hbf : Below B w w1 := own_below ebw Hown1.out hg1 (by simp; omega)
      have Hfin := Lib.hid hfin
      clear hfin ho1 hg1 ebw
      go_wp2
      go_roundw
      case rel => exact ⟨j + 1, by omega, by go_num, by rw [Hend.out], Hfin.out, hbf⟩
      case measure => simp [intOf]; omega
    · obtain rfl : j = vs.length := by omega
      rw [List.take_length, mV_all] at *
      clear hml
      go_wp2
      go_ret
      exact ⟨rfl, how, hbw⟩
end Go.Proofs.YtagmnbphbakikaaGreat
namespace Go.Proofs.YtagmnbphbakikaaGreat
open Go Go.RowKit Reg
attribute [local go_sem] calmAt calmUpon
theorem ei_vb : EI Tryz.prog 44 128 (.agg #[.int .i64 0, .slice none 0 0]) [.int .i64 0, .slice none 0 0] 32 := ei_mk Tryz.underlying44 (by kernel_rfl) rfl (by decide) (by decide)
end Go.Proofs.YtagmnbphbakikaaGreat
namespace Go.Proofs.YtagmnbphbakikaaGreat
open Go Go.RowKit Reg
/-- A slice value that is nil, or leads somewhere: what a source's value looks like. -/
def SlOk (A : Option Addr) (n cap : Nat) : Prop := (A = none → n = 0 ∧ cap = 0) ∧ n ≤ cap ∧ cap ≤ maxLen
theorem Has.slok {w : World} {B : Nat} {e : TypeId} {sz n cap : Nat} {A : Option Addr} {xs : List Value} (h : Has w B e sz (.slice A n cap) n xs) : SlOk A n cap := by
  rcases h.2 with ⟨h0, h1⟩ | ⟨g, cap', cur, h1, _, _, h4, h5, _⟩
  · injection h0 with a b c
    subst b c
    exact ⟨fun _ => ⟨rfl, rfl⟩, by omega, by simp⟩
  · injection h1 with a b c
    subst a c
    exact ⟨fun h => (by cases h), h4, h5⟩
theorem Has.clip {w : World} {B : Nat} {e : TypeId} {sz n cap : Nat} {A : Option Addr} {xs : List Value} (h : Has w B e sz (.slice A n cap) n xs) : Has w B e sz (.slice A n n) n xs := by
  refine ⟨h.1, ?_⟩
  rcases h.2 with ⟨h0, h1⟩ | ⟨g, cap', cur, h1, h2, h3, h4, h5, h6, h7⟩
  · injection h0 with a b c
    subst a b c
    exact .inl ⟨rfl, rfl⟩
  · injection h1 with a b c
    subst a c
    exact .inr ⟨g, n, cur, rfl, h2, h3, Nat.le_refl _, by omega, Nat.le_trans (Nat.mul_le_mul_right _ h4) h6, h7⟩
set_option maxHeartbeats 1000000 in
theorem c_Clone_ei_pt (A : Option Addr) (n cap : Nat) (cs : List Value) (w : World) (h : Src w A n 2 cs) (hs : SlOk A n cap) (hn : n ≤ 3000000000) :
    Calls Tryz.prog 179 #[.slice A n cap] w fun e w' => ∃ A' cap', e = .returned (.slice A' n cap') ∧ SlOk A' n cap' ∧ Has w' w.heap.size 45 2 (.slice A' n cap') n cs ∧ Below w.heap.size w w' := by
  cases A with
  | none =>
    obtain ⟨rfl, rfl⟩ := hs.1 rfl
    have hcs : cs = [] := List.eq_nil_of_length_eq_zero (by simpa using h.1)
    subst hcs
    have hq := fun W => Lib.run_eql_slice_nil (P := Tryz.prog) W 126 45 none 0 0 0 0 Tryz.underlying126
    go_enter Tryz.func179, Tryz.ntmps179
    go_wp2
    go_ret
    exact ⟨none, 0, rfl, ⟨fun _ => ⟨rfl, rfl⟩, by simp, by simp⟩, own_nil _ _ _ _, Below.refl _ _⟩
  | some ad =>
    have hq := fun W => Lib.run_eql_slice_nil (P := Tryz.prog) W 126 45 (some ad) n cap 0 0 Tryz.underlying126
    go_enter Tryz.func179, Tryz.ntmps179
    go_wp2_with (at_builtin; refine wpList_app (base := w.heap.size) ei_pt rfl (.tmp 5) (.tmp 6) rfl rfl (own_of_row (n := 0) (cs := []) (Row.new w _ []) (Nat.le_refl _) rfl (by decide)) rfl (h.ext (ext_alloc _ _)) (by omega) (by simp) ?_; intro v2 w3 hown3 hg3 hat3)
    obtain ⟨A2, cap2, hv2⟩ := own_form hown3
    have hb : Below w.heap.size w w3 := own_below (ext_alloc w _) (own_of_row (n := 0) (sz := 2) (cs := []) (Row.new w 45 []) (Nat.le_refl _) rfl (by decide)) hg3 (by simp)
    subst hv2
    go_wp2
    go_ret
    refine ⟨A2, cap2, by simp, by simpa using hown3.slok, by simpa using hown3, hb⟩
set_option maxHeartbeats 1000000 in
theorem c_Clip_ei_pt (A : Option Addr) (n cap : Nat) (w : World) (hs : SlOk A n cap) :
    Calls Tryz.prog 178 #[.slice A n cap] w fun e w' => e = .returned (.slice A n n) ∧ w = w' := by
  obtain ⟨h1, h2, h3⟩ := hs
  unfold maxLen at h3
  cases A with
  | none =>
    obtain ⟨rfl, rfl⟩ := h1 rfl
    clear h1
    go_enter Tryz.func178, Tryz.ntmps178
    go_wp2
    go_ret
    exact ⟨rfl, rfl⟩
  | some ad =>
    clear h1
    go_enter Tryz.func178, Tryz.ntmps178
    go_wp2
    go_ret
    exact ⟨rfl, rfl⟩
set_option maxHeartbeats 1000000 in
theorem c_Clip_ei_int (A : Option Addr) (n cap : Nat) (w : World) (hs : SlOk A n cap) :
    Calls Tryz.prog 126 #[.slice A n cap] w fun e w' => e = .returned (.slice A n n) ∧ w = w' := by
  obtain ⟨h1, h2, h3⟩ := hs
  unfold maxLen at h3
  cases A with
  | none =>
    obtain ⟨rfl, rfl⟩ := h1 rfl
    clear h1
    go_enter Tryz.func126, Tryz.ntmps126
    go_wp2
    go_ret
    exact ⟨rfl, rfl⟩
  | some ad =>
    clear h1
    go_enter Tryz.func126, Tryz.ntmps126
    go_wp2
    go_ret
    exact ⟨rfl, rfl⟩
set_option maxHeartbeats 1000000 in
theorem c_clone_ei_pt (A : Option Addr) (n cap : Nat) (cs : List Value) (w : World) (h : Src w A n 2 cs) (hs : SlOk A n cap) (hn : n ≤ 3000000000) :
    Calls Tryz.prog 150 #[.slice A n cap] w fun e w' => ∃ A', e = .returned (.slice A' n n) ∧ SlOk A' n n ∧ Has w' w.heap.size 45 2 (.slice A' n n) n cs ∧ Below w.heap.size w w' := by
  go_enter Tryz.func150, Tryz.ntmps150
  go_wp2_with fail
  refine (c_Clone_ei_pt A n cap cs w h hs hn).mono ?_; rintro e w1 ⟨A1, cap1, rfl, hs1, ho1, hb1⟩
  go_wp2_with fail
  refine (c_Clip_ei_pt A1 n cap1 w1 hs1).mono ?_; rintro e w2 ⟨rfl, rfl⟩
  go_wp2
  go_ret
  exact ⟨A1, rfl, ho1.clip.slok, ho1.clip, hb1⟩
end Go.Proofs.YtagmnbphbakikaaGreat
namespace Go.Proofs.YtagmnbphbakikaaGreat
open Go Go.RowKit Go.ChangeShapes Go.WideShapes Go.ChangeAt Go.Deep Reg

/-- Whatever is read at type e has cells as R says. -/
def Opens {α : Type} (P : Program) (e : TypeId) (R : World → α → List Value → Prop) : Prop :=
  ∀ {H : Type} (enc : TypeId × Value → H) (w : World) (base : Nat) (spare : Nat → Bool) (held : Bool) (n : Nat) (cs : List Value) (y : DataW H × List MemPlace), DataW.trod enc P w base spare held n e cs = some y → ∃ x, R w x cs

/-- A slice value that reads as xs. -/
def slR {α : Type} (R : World → α → List Value → Prop) (sz : Nat) : World → List α → List Value → Prop := fun w xs us => ∃ A cap, us = [.slice A xs.length cap] ∧ In R sz w A xs ∧ xs.length ≤ maxLen ∧ xs.length ≤ cap ∧ cap ≤ maxLen ∧ (A = none → xs.length = 0 ∧ cap = 0)

theorem slR_stab {α : Type} {R : World → α → List Value → Prop} {sz : Nat} (h : Stab R) : Stab (slR R sz) := by
  rintro w w' xs us ⟨A, cap, h1, h2, h3⟩ hx
  exact ⟨A, cap, h1, h2.ext h hx, h3⟩

theorem add_block (a : Addr) (n : Nat) (h : a.spot = none) : a.add n = ⟨a.block, a.off + n, none⟩ := by
  obtain ⟨b, o, s⟩ := a
  subst h
  unfold Addr.add
  split
  · rename_i h; subst h; rfl
  · rfl

theorem opens_slice {α : Type} {P : Program} {t e : TypeId} {sz : Nat} {R : World → α → List Value → Prop} (ht : P.underlying t = some (.slice e)) (hsz : P.cellsOf e = sz) (h0 : 0 < sz) (hO : Opens P e R) : Opens P t (slR R sz) := by
  intro H enc w base spare held n cs y h
  rcases open_slice ht h with ⟨rfl, _⟩ | ⟨a, len, cap, m, n', D, Pl, rfl, hb, hl, hm, hmm, _, hi⟩
  · exact ⟨[], none, 0, rfl, In.of_nil, by simp, by simp, by simp, fun _ => ⟨rfl, rfl⟩⟩
  · have hlm : len ≤ m := by rw [hmm]; split <;> omega
    have hc : ∀ i : Fin len, ∃ x us, R w x us ∧ us.length = sz ∧ ∀ (j : Nat) u, us[j]? = some u → w.cell? (a.add (i.val * sz + j)) = some u := by
      intro i
      obtain ⟨cs', q1, q2⟩ := hi i.val (Nat.lt_of_lt_of_le i.isLt hlm)
      obtain ⟨x, hx⟩ := hO enc w base spare held n' cs' _ q2
      obtain ⟨_, q3, q4⟩ := World.cells?_some q1
      refine ⟨x, cs', hx, by rw [q3, hsz], fun j u hu => ?_⟩
      have hj : j < P.cellsOf e := by rw [← q3]; exact (List.getElem?_eq_some_iff.1 hu).1
      rw [← hsz, ← Go.Deep.add_add, q4 j hj, hu]
    have hpick : ∃ f : Fin len → α, ∀ i : Fin len, ∃ us, R w (f i) us ∧ us.length = sz ∧ ∀ (j : Nat) u, us[j]? = some u → w.cell? (a.add (i.val * sz + j)) = some u := ⟨fun i => Classical.choose (hc i), fun i => Classical.choose_spec (hc i)⟩
    obtain ⟨f, hf⟩ := hpick
    refine ⟨List.ofFn f, some a, cap, by simp, ?_, by simp; omega, by simp; omega, by omega, fun h => (by cases h)⟩
    intro hn
    simp only [List.length_ofFn] at hn
    have hs : a.spot = none := by
      obtain ⟨us, _, q2, q3⟩ := hf ⟨0, hn⟩
      have := q3 0 _ (List.getElem?_eq_getElem (by omega))
      simp only [Nat.zero_mul, Nat.zero_add] at this
      unfold World.cell? at this
      have e0 : a.add 0 = a := by simp [Addr.add]
      rw [e0] at this
      split at this
      · split at this
        · cases this
        · rename_i hsp; simpa using hsp
      · cases this
    refine ⟨a.block, a.off, by obtain ⟨b, o, s⟩ := a; simp at hs; subst hs; rfl, fun k hk => ?_⟩
    simp only [List.length_ofFn] at hk
    obtain ⟨us, q1, q2, q3⟩ := hf ⟨k, hk⟩
    refine ⟨us, by simpa using q1, q2, fun j u hu => ?_⟩
    have := q3 j u hu
    rw [add_block a _ hs] at this
    simpa [Nat.add_assoc] using this

/-- From a statement's reading of an argument to the slice that it is. -/
theorem open_arg {α : Type} {H : Type} {enc : TypeId × Value → H} {P : Program} {w : World} {base : Nat} {spare : Nat → Bool} {held : Bool} {t : TypeId} {R : World → List α → List Value → Prop} {A : Option Addr} {len cap : Nat} {d : DataW H} {p : List MemPlace} {sz : Nat} {R' : World → α → List Value → Prop}
    (hR : R = slR R' sz) (hO : Opens P t R) (h : DataW.Trod enc P w base spare held t (.slice A len cap) d p) : ∃ xs : List α, len = xs.length ∧ In R' sz w A xs ∧ xs.length ≤ cap ∧ cap ≤ maxLen := by
  subst hR
  obtain ⟨fuel, hf⟩ := h
  obtain ⟨xs, A', cap', h1, h2, h3, h4, h5, _⟩ := hO enc w base spare held fuel _ _ hf
  simp [Value.cells] at h1
  obtain ⟨rfl, rfl, rfl⟩ := h1
  exact ⟨xs, rfl, h2, h4, h5⟩

theorem opens_int {P : Program} {t : TypeId} (ht : P.underlying t = some (.int .i64)) : Opens P t (intR) := by
  intro H enc w base spare held n cs y h
  obtain ⟨x, h1, _⟩ := DataW.trod_int ht h
  exact ⟨x, h1⟩

theorem Opens.mono {α β : Type} {P : Program} {t : TypeId} {R : World → α → List Value → Prop} {R' : World → β → List Value → Prop} (h : Opens P t R) (hm : ∀ w x us, R w x us → ∃ y, R' w y us) : Opens P t R' :=
  fun enc w base spare held n cs y hh => let ⟨x, hx⟩ := h enc w base spare held n cs y hh; hm w x cs hx

theorem opens_byte {P : Program} {t : TypeId} (ht : P.underlying t = some (.int .u8)) : Opens P t (fun _ n us => us = [.int .u8 n] ∧ 0 ≤ n ∧ n ≤ 255) := by
  intro H enc w base spare held n cs y h
  obtain ⟨x, h1, _, h2⟩ := DataW.trod_int ht h
  refine ⟨x, h1, ?_⟩
  simp [Lit.wf, IntKind.min, IntKind.max, IntKind.bits, IntKind.signed] at h2
  omega
-- open_arg2
/-- Two parts, one behind the other. -/
def pairR {α β : Type} (R : World → α → List Value → Prop) (R' : World → β → List Value → Prop) : World → α × β → List Value → Prop := fun w x us => ∃ u0 u1, R w x.1 u0 ∧ R' w x.2 u1 ∧ us = u0 ++ u1

theorem opens_struct2 {α β : Type} {P : Program} {t : TypeId} {f0 f1 : Field} {c0 c1 : Nat} {R : World → α → List Value → Prop} {R' : World → β → List Value → Prop} (ht : P.underlying t = some (.struct #[f0, f1]))
    (hc : P.cellsOf t = c0 + c1) (o0 : f0.offset = 0) (o1 : f1.offset = c0) (k0 : P.cellsOf f0.type = c0) (k1 : P.cellsOf f1.type = c1) (h0 : Opens P f0.type R) (h1 : Opens P f1.type R') : Opens P t (pairR R R') := by
  intro H enc w base spare held n cs y h
  obtain ⟨y0, y1, m, _, hl, q0, q1⟩ := trod_struct2 ht h
  rw [o0, k0, List.drop_zero] at q0
  rw [o1, k1] at q1
  rw [hc] at hl
  obtain ⟨x0, r0⟩ := h0 enc w base spare held m _ _ q0
  obtain ⟨x1, r1⟩ := h1 enc w base spare held m _ _ q1
  have e : (cs.drop c0).take c1 = cs.drop c0 := List.take_of_length_le (by rw [List.length_drop]; omega)
  rw [e] at r1
  exact ⟨(x0, x1), _, _, r0, r1, (List.take_append_drop c0 cs).symm⟩

theorem opens_pt {P : Program} {t : TypeId} {f0 f1 : Field} (ht : P.underlying t = some (.struct #[f0, f1])) (hc : P.cellsOf t = 2) (o0 : f0.offset = 0) (o1 : f1.offset = 1)
    (k0 : P.cellsOf f0.type = 1) (k1 : P.cellsOf f1.type = 1) (h0 : P.underlying f0.type = some (.int .i64)) (h1 : P.underlying f1.type = some (.int .i64)) : Opens P t ptR :=
  Opens.mono (opens_struct2 (c0 := 1) (c1 := 1) ht hc o0 o1 k0 k1 (opens_int h0) (opens_int h1)) fun w x us ⟨u0, u1, r0, r1, e⟩ => ⟨x, by
    have e0 : u0 = [.int .i64 x.1] := r0
    have e1 : u1 = [.int .i64 x.2] := r1
    subst e0 e1
    exact e⟩

/-- A struct argument: its cells are as R says. -/
theorem open_struct_arg {α : Type} {H : Type} {enc : TypeId × Value → H} {P : Program} {w : World} {base : Nat} {spare : Nat → Bool} {held : Bool} {t : TypeId} {fs : Array Field} {R : World → α → List Value → Prop} {v : Value} {d : DataW H} {p : List MemPlace} {r : Reach} {b : Nat}
    (ht : P.underlying t = some (.struct fs)) (hO : Opens P t R) (hv : Value.okWide P w r b t v) (h : DataW.Trod enc P w base spare held t v d p) : ∃ x us, v = .agg us.toArray ∧ R w x us := by
  obtain ⟨cs, rfl, _⟩ := okWide_struct ht hv
  obtain ⟨fuel, hf⟩ := h
  obtain ⟨x, hx⟩ := hO enc w base spare held fuel _ _ hf
  exact ⟨x, cs.toList, by simp, hx⟩

theorem trod_struct4 {H : Type} {enc : TypeId × Value → H} {P : Program} {w : World} {base : Nat} {spare : Nat → Bool} {held : Bool} {t : TypeId} {f0 f1 f2 f3 : Field} {fuel : Nat} {cs : List Value} {x : DataW H × List MemPlace} (ht : P.underlying t = some (.struct #[f0, f1, f2, f3])) (h : DataW.trod enc P w base spare held fuel t cs = some x) :
    ∃ y0 y1 y2 y3 n, cs.length = P.cellsOf t ∧ DataW.trod enc P w base spare held n f0.type ((cs.drop f0.offset).take (P.cellsOf f0.type)) = some y0 ∧ DataW.trod enc P w base spare held n f1.type ((cs.drop f1.offset).take (P.cellsOf f1.type)) = some y1 ∧
      DataW.trod enc P w base spare held n f2.type ((cs.drop f2.offset).take (P.cellsOf f2.type)) = some y2 ∧ DataW.trod enc P w base spare held n f3.type ((cs.drop f3.offset).take (P.cellsOf f3.type)) = some y3 := by
  obtain ⟨xs, n, _, rfl, hl, hlen, hf⟩ := DataW.trod_struct ht h
  match xs, hlen with
  | [y0, y1, y2, y3], _ => exact ⟨y0, y1, y2, y3, n, hl, by simpa using hf 0 f0 rfl, by simpa using hf 1 f1 rfl, by simpa using hf 2 f2 rfl, by simpa using hf 3 f3 rfl⟩

/-- Four coordinates. -/
abbrev Bx := Int × Int × Int × Int
def bxR : World → Bx → List Value → Prop := fun _ b us => us = [.int .i64 b.1, .int .i64 b.2.1, .int .i64 b.2.2.1, .int .i64 b.2.2.2]
theorem opens_bx {P : Program} {t : TypeId} {f0 f1 f2 f3 : Field} (ht : P.underlying t = some (.struct #[f0, f1, f2, f3])) (hc : P.cellsOf t = 4)
    (ho : (f0.offset, f1.offset, f2.offset, f3.offset) = (0, 1, 2, 3)) (hk : (P.cellsOf f0.type, P.cellsOf f1.type, P.cellsOf f2.type, P.cellsOf f3.type) = (1, 1, 1, 1))
    (hi : (P.underlying f0.type, P.underlying f1.type, P.underlying f2.type, P.underlying f3.type) = (some (.int .i64), some (.int .i64), some (.int .i64), some (.int .i64))) : Opens P t bxR := by
  intro H enc w base spare held n cs y h
  obtain ⟨y0, y1, y2, y3, m, hl, q0, q1, q2, q3⟩ := trod_struct4 ht h
  injection ho with o0 ho
  injection ho with o1 ho
  injection ho with o2 o3
  injection hk with k0 hk
  injection hk with k1 hk
  injection hk with k2 k3
  injection hi with i0 hi
  injection hi with i1 hi
  injection hi with i2 i3
  rw [hc] at hl
  obtain ⟨c0, c1, c2, c3, rfl⟩ : ∃ c0 c1 c2 c3, cs = [c0, c1, c2, c3] := by
    match cs, hl with
    | [c0, c1, c2, c3], _ => exact ⟨c0, c1, c2, c3, rfl⟩
  rw [o0, k0] at q0
  rw [o1, k1] at q1
  rw [o2, k2] at q2
  rw [o3, k3] at q3
  obtain ⟨n0, e0, _⟩ := DataW.trod_int i0 q0
  obtain ⟨n1, e1, _⟩ := DataW.trod_int i1 q1
  obtain ⟨n2, e2, _⟩ := DataW.trod_int i2 q2
  obtain ⟨n3, e3, _⟩ := DataW.trod_int i3 q3
  simp at e0 e1 e2 e3
  subst e0 e1 e2 e3
  exact ⟨(n0, n1, n2, n3), rfl⟩

end Go.Proofs.YtagmnbphbakikaaGreat
namespace Go.Proofs.YtagmnbphbakikaaGreat
open Go Go.RowKit Reg

section
variable {P : Program} {t e : TypeId} {z : Value} {zl : List Value} {bytes : Nat}

theorem addr_add (b o k : Nat) : (⟨b, o, none⟩ : Addr).add k = ⟨b, o + k, none⟩ := by
  unfold Addr.add; split
  · rename_i h; subst h; rfl
  · rfl

/-- The address that a slice expression leads to, or any where nothing is left. -/
def subA (A : Option Addr) (cap lo sz : Nat) : Option Addr := if cap = lo then A else A.map (·.add (lo * sz))
theorem subA_none (cap lo sz : Nat) : subA none cap lo sz = none := by unfold subA; split <;> rfl
theorem subA_some (b o cap lo sz : Nat) : ∃ o', subA (some ⟨b, o, none⟩) cap lo sz = some ⟨b, o', none⟩ ∧ (cap ≠ lo → o' = o + lo * sz) := by
  unfold subA
  split
  · exact ⟨o, rfl, fun h => absurd ‹_› h⟩
  · exact ⟨o + lo * sz, by simp [addr_add], fun _ => rfl⟩

/-- s[lo:hi] -/
theorem run_slice2 (E : EI P t e z zl bytes) (A : Option Addr) (n cap lo hi : Nat) (l h : Int) (hl : l = (lo : Int)) (hh : h = (hi : Int)) (h1 : lo ≤ hi) (h2 : hi ≤ cap) (w : World) :
    (Instr.slice t (.slice A n cap) (some (.int .i64 l)) (some (.int .i64 h)) none).run P w = .ok (.slice (subA A cap lo zl.length) (hi - lo) (cap - lo)) w := by
  subst hl hh
  obtain ⟨i, q1, q2, q3, q4⟩ := E.info
  simp [Instr.slice, run_underlying E.und, Instr.sliceBounds, Instr.sliceBound, asIntOf, h1, h2, sizeOf, typeInfo, q1, q3, subA]
theorem run_slice_hi (E : EI P t e z zl bytes) (A : Option Addr) (n cap hi : Nat) (h : Int) (hh : h = (hi : Int)) (h2 : hi ≤ cap) (w : World) :
    (Instr.slice t (.slice A n cap) none (some (.int .i64 h)) none).run P w = .ok (.slice A hi cap) w := by
  subst hh
  obtain ⟨i, q1, q2, q3, q4⟩ := E.info
  have e3 : (A.map fun x => x.add 0) = A := by cases A <;> simp [Addr.add]
  simp [Instr.slice, run_underlying E.und, Instr.sliceBounds, Instr.sliceBound, asIntOf, h2, sizeOf, typeInfo, q1, e3]
theorem run_slice_lo (E : EI P t e z zl bytes) (A : Option Addr) (n cap lo : Nat) (l : Int) (hl : l = (lo : Int)) (h1 : lo ≤ n) (w : World) :
    (Instr.slice t (.slice A n cap) (some (.int .i64 l)) none none).run P w = .ok (.slice (subA A cap lo zl.length) (n - lo) (cap - lo)) w := by
  subst hl
  obtain ⟨i, q1, q2, q3, q4⟩ := E.info
  simp [Instr.slice, run_underlying E.und, Instr.sliceBounds, Instr.sliceBound, asIntOf, h1, sizeOf, typeInfo, q1, q3, subA]
/-- s[lo:hi:max] -/
theorem run_slice3 (E : EI P t e z zl bytes) (A : Option Addr) (n cap lo hi mx : Nat) (l h m : Int) (hl : l = (lo : Int)) (hh : h = (hi : Int)) (hm : m = (mx : Int)) (h1 : lo ≤ hi) (h2 : hi ≤ mx) (h3 : mx ≤ cap) (w : World) :
    (Instr.slice t (.slice A n cap) (some (.int .i64 l)) (some (.int .i64 h)) (some (.int .i64 m))).run P w = .ok (.slice (subA A mx lo zl.length) (hi - lo) (mx - lo)) w := by
  subst hl hh hm
  obtain ⟨i, q1, q2, q3, q4⟩ := E.info
  simp [Instr.slice, run_underlying E.und, Instr.sliceBounds, Instr.sliceBound, asIntOf, h1, h2, h3, sizeOf, typeInfo, q1, q3, subA]

/-- A part of a slice that reads as a list. -/
theorem In.sub {α : Type} {R : World → α → List Value → Prop} {sz : Nat} {w : World} {A : Option Addr} {xs : List α} (h : In R sz w A xs) {cap lo hi : Nat} (h1 : lo ≤ hi) (h2 : hi ≤ xs.length) (h3 : xs.length ≤ cap) :
    In R sz w (subA A cap lo sz) ((xs.take hi).drop lo) := by
  intro hn
  simp only [List.length_drop, List.length_take] at hn
  obtain ⟨b, off, rfl, hc⟩ := h (by omega)
  obtain ⟨o', hs, ho⟩ := subA_some b off cap lo sz
  have ho := ho (by omega)
  subst ho
  refine ⟨b, off + lo * sz, hs, fun k hk => ?_⟩
  simp only [List.length_drop, List.length_take] at hk
  obtain ⟨us, q1, q2, q3⟩ := hc (lo + k) (by omega)
  refine ⟨us, by simpa using q1, q2, fun j u hu => ?_⟩
  have := q3 j u hu
  rw [Nat.add_mul] at this
  rw [show off + lo * sz + k * sz + j = off + (lo * sz + k * sz) + j by omega]
  exact this
theorem In.take {α : Type} {R : World → α → List Value → Prop} {sz : Nat} {w : World} {A : Option Addr} {xs : List α} (h : In R sz w A xs) (k : Nat) : In R sz w A (xs.take k) := by
  intro hn
  simp only [List.length_take] at hn
  obtain ⟨b, off, rfl, hc⟩ := h (by omega)
  refine ⟨b, off, rfl, fun j hj => ?_⟩
  simp only [List.length_take] at hj
  obtain ⟨us, q1, q2, q3⟩ := hc j (by omega)
  exact ⟨us, by simpa using q1, q2, q3⟩

/-- The beginning of an owned row. -/
theorem Has.prefix_ {w : World} {base sz n cap g m : Nat} {xs : List Value} (h : Has w base e sz (.slice (some ⟨g, 0, none⟩) n cap) n xs) (hm : m ≤ n) : Has w base e sz (.slice (some ⟨g, 0, none⟩) m cap) m (xs.take (m * sz)) := by
  refine ⟨by rw [List.length_take, h.1]; exact Nat.min_eq_left (Nat.mul_le_mul_right _ hm), ?_⟩
  rcases h.2 with ⟨h0, _⟩ | ⟨g', cap', cur, h1, h2, h3, h4, h5, h6, h7⟩
  · cases h0
  · injection h1 with h1 _ hc
    injection h1 with h1
    injection h1 with h1
    subst h1 hc
    refine .inr ⟨g, cap, cur, rfl, h2, h3, by omega, h5, h6, ?_⟩
    rw [← h7, List.take_take, Nat.min_eq_left (Nat.mul_le_mul_right _ hm)]

/-- Appending within the row: in place. -/
theorem run_app_in (E : EI P t e z zl bytes) (ty : TypeId) {w : World} {base n cap g : Nat} {xs : List Value} (hown : Has w base e zl.length (.slice (some ⟨g, 0, none⟩) n cap) n xs) {A : Option Addr} {m : Nat} (c : Nat) {news : List Value} (hsrc : Src w A m zl.length news)
    (hroom : n + m ≤ cap) :
    ∃ w', (Builtin.append_ #[t, t] ty #[.slice (some ⟨g, 0, none⟩) n cap, .slice A m c]).run P w = .ok (.slice (some ⟨g, 0, none⟩) (n + m) cap) w' ∧ Has w' base e zl.length (.slice (some ⟨g, 0, none⟩) (n + m) cap) (n + m) (xs ++ news) ∧ w.grownBy w' (some g) := by
  obtain ⟨i, h1, h2, h3, h4⟩ := E.info
  obtain ⟨s1, s2, s3, s4⟩ := hsrc
  have hown0 := hown
  rcases hown.2 with ⟨h0, _⟩ | ⟨g', cap', cur, hv, q1, q2, q3, q4, q5, q6⟩
  · cases h0
  injection hv with hv _ hc
  injection hv with hv
  injection hv with hv
  subst hv hc
  cases A with
  | some ad =>
    have hfit : n * i.size + news.length ≤ cur.size := by
      rw [h3, s1, ← Nat.add_mul]
      exact Nat.le_trans (Nat.mul_le_mul_right _ hroom) q5
    have hr := run_append_room (P := P) w t ty e i E.und h1 g n cap cur q2 ad m c news (by rw [h3]; exact s1) (s3 ad rfl) s4 hroom hfit
    refine ⟨_, hr, ⟨by rw [List.length_append, hown0.1, s1, Nat.add_mul], .inr ⟨g, cap, _, rfl, q1, setRow_heap w g cur _ e _ q2, hroom, q4, ?_, ?_⟩⟩, ⟨rfl, rfl, rfl, by simp, fun k _ hk => setRow_other w g k _ (fun e => hk (by simp [e]))⟩⟩
    · simp only [List.size_toArray, List.length_append, List.length_take, List.length_drop, Array.length_toList]
      omega
    · have hlen : (n + m) * zl.length = (xs ++ news).length := by rw [List.length_append, hown0.1, s1, Nat.add_mul]
      rw [h3, q6, hlen]
      exact List.take_left
  | none =>
    have hm := s2 rfl
    subst hm
    have hnil : news = [] := List.eq_nil_of_length_eq_zero (by simpa using s1)
    subst hnil
    refine ⟨w, ?_, by simpa using hown0, ⟨rfl, rfl, rfl, Nat.le_refl _, fun _ _ _ => rfl⟩⟩
    simp [Builtin.append_, run_underlying E.und, sizeOf, typeInfo, h1, Builtin.lenOf, Builtin.firstCells, q3, storeCells]

theorem wp_app_in {o : Oper} {a : Act} {K : Act → World → Prop} {Q : Exit → Act → World → Prop} (E : EI P t e z zl bytes) (s x : Operand) (ho : o.op = .call { callee := .builtin .append, args := #[s, x], argTypes := #[t, t] })
    {w : World} {base n cap g r : Nat} {xs : List Value} (hs : a.eval s = .slice (some ⟨g, 0, none⟩) n cap) (hown : Has w base e zl.length (.slice (some ⟨g, 0, none⟩) n cap) n xs) {A : Option Addr} {m c : Nat} {news : List Value} (hx : a.eval x = .slice A m c) (hsrc : Src w A m zl.length news)
    (hroom : n + m ≤ cap) (hr : r = n + m)
    (h : ∀ w', Has w' base e zl.length (.slice (some ⟨g, 0, none⟩) r cap) r (xs ++ news) → w.grownBy w' (some g) → K (a.put o.dst (.slice (some ⟨g, 0, none⟩) r cap)) w') : o.wp P a w K Q := by
  obtain ⟨w', hrun, h2, h3⟩ := run_app_in E o.type hown c hsrc hroom
  subst hr
  unfold Oper.wp execOp
  simp only [ho, resolve, invoke, builtin, Sem.run_bind, Sem.run_pure, Result.andThen_ok, List.map_toArray, List.map_cons, List.map_nil, hs, hx, hrun]
  exact h w' h2 h3

/-- clear(s[n:n+m]) behind a row's first n elements. -/
theorem run_clear_behind (E : EI P t e z zl bytes) {w : World} {base n cap g m c o' : Nat} {xs : List Value} (hown : Has w base e zl.length (.slice (some ⟨g, 0, none⟩) n cap) n xs) (ho : 0 < m → o' = n * zl.length) (hm : n + m ≤ cap)
    (hz : ∀ u ∈ zl, u.oneCell' = true) (hzv : ∀ w, (zeroValue e).run P w = .ok z w) :
    ∃ w', (∀ ty, (Builtin.clear_ #[t] ty #[.slice (some ⟨g, o', none⟩) m c]).run P w = .ok (.tuple #[]) w') ∧ Has w' base e zl.length (.slice (some ⟨g, 0, none⟩) n cap) n xs ∧ w.grownBy w' (some g) := by
  rcases Nat.eq_zero_or_pos m with h0 | h0
  · subst h0
    refine ⟨w, ?_, hown, ⟨rfl, rfl, rfl, Nat.le_refl _, fun _ _ _ => rfl⟩⟩
    intro ty
    simp [Builtin.clear_, run_underlying E.und]
  · have ho := ho h0
    subst ho
    obtain ⟨k, rfl⟩ : ∃ k, m = k + 1 := ⟨m - 1, by omega⟩
    have hown0 := hown
    rcases hown.2 with ⟨h0, _⟩ | ⟨g', cap', cur, hv, q1, q2, q3, q4, q5, q6⟩
    · cases h0
    injection hv with hv _ hc
    injection hv with hv
    injection hv with hv
    subst hv hc
    have hzc : (Builtin.zeroCells z.cells (k + 1)).toList.length = (k + 1) * zl.length := by
      rw [Array.length_toList, size_zeroCells, E.zc]; simp
    have hfit : n * zl.length + 0 + (Builtin.zeroCells z.cells (k + 1)).toList.length ≤ cur.size := by
      rw [hzc, Nat.add_zero, ← Nat.add_mul]
      exact Nat.le_trans (Nat.mul_le_mul_right _ hm) q5
    have h1c : ∀ v ∈ (Builtin.zeroCells z.cells (k + 1)).toList, v.oneCell' = true := by
      intro v hv
      simp only [Builtin.zeroCells, Array.toList_map, List.mem_map] at hv
      obtain ⟨i, _, rfl⟩ := hv
      apply hz
      have hlt : i % z.cells.size < zl.length := by
        rw [E.zc]; simpa using Nat.mod_lt i E.pos
      have e2 : z.cells[i % z.cells.size]! = zl[i % z.cells.size] := by
        have hlt' : i % z.cells.size < z.cells.size := by rw [E.zc] at hlt ⊢; simpa using hlt
        rw [getElem!_pos z.cells _ hlt']
        simp [E.zc]
      rw [e2]
      exact List.getElem_mem hlt
    have hst := run_storeCells_at P g (n * zl.length) e (Builtin.zeroCells z.cells (k + 1)).toList 0 cur w q2 hfit h1c
    rw [Nat.add_zero] at hst
    refine ⟨w.setRow g (cur.toList.take (n * zl.length) ++ (Builtin.zeroCells z.cells (k + 1)).toList ++ cur.toList.drop (n * zl.length + (Builtin.zeroCells z.cells (k + 1)).toList.length)).toArray, ?_, ?_, ⟨rfl, rfl, rfl, by simp, fun k _ hk => setRow_other w g k _ (fun e => hk (by simp [e]))⟩⟩
    · intro ty
      simp only [Builtin.clear_]
      simp [run_underlying E.und, hzv, hst]
    refine ⟨hown0.1, .inr ⟨g, cap, _, rfl, q1, setRow_heap w g cur _ e _ q2, q3, q4, ?_, ?_⟩⟩
    · simp only [List.size_toArray, List.length_append, List.length_take, List.length_drop, Array.length_toList] at hfit ⊢
      omega
    · have h8 := Nat.le_trans (Nat.mul_le_mul_right zl.length q3) q5
      rw [List.append_assoc, List.take_append_of_le_length, List.take_take, Nat.min_self, q6]
      rw [List.length_take, Array.length_toList]; exact Nat.le_min.2 ⟨Nat.le_refl _, h8⟩

end
end Go.Proofs.YtagmnbphbakikaaGreat
namespace Go.Proofs.YtagmnbphbakikaaGreat
open Go Go.RowKit Reg
attribute [local go_sem] calmAt calmUpon
set_option maxHeartbeats 1000000 in
theorem c_ClipR (A : Option Addr) (n cap : Nat) (w : World) (hs : SlOk A n cap) :
    Calls Tryz.prog 152 #[.slice A n cap] w fun e w' => e = .returned (.slice A n n) ∧ w = w' := by
  obtain ⟨h1, h2, h3⟩ := hs
  unfold maxLen at h3
  cases A with
  | none =>
    obtain ⟨rfl, rfl⟩ := h1 rfl
    clear h1
    go_enter Tryz.func152, Tryz.ntmps152
    go_wp2
    go_ret
    exact ⟨rfl, rfl⟩
  | some ad =>
    clear h1
    go_enter Tryz.func152, Tryz.ntmps152
    go_wp2
    go_ret
    exact ⟨rfl, rfl⟩
end Go.Proofs.YtagmnbphbakikaaGreat
namespace Go.Proofs.YtagmnbphbakikaaGreat
open Go Go.RowKit Reg
attribute [local go_sem] calmAt calmUpon
end Go.Proofs.YtagmnbphbakikaaGreat
namespace Go.Proofs.YtagmnbphbakikaaGreat
open Go Go.RowKit Reg
attribute [local go_sem] calmAt calmUpon
abbrev bxV (b : Bx) : Value := .agg #[.int .i64 b.1, .int .i64 b.2.1, .int .i64 b.2.2.1, .int .i64 b.2.2.2]
def vbxB (b : Bx) : Bool := decide ((-1000 ≤ b.1 ∧ b.1 ≤ b.2.2.1 ∧ b.2.2.1 ≤ 1000) ∧ (-1000 ≤ b.2.1 ∧ b.2.1 ≤ b.2.2.2 ∧ b.2.2.2 ≤ 1000))
set_option maxHeartbeats 1000000 in
theorem c_isEmpty (l t r b : Int) (w : World) : Calls Tryz.prog 108 #[bxV (l, t, r, b)] w fun e w' => e = .returned (.bool (decide (l = r ∨ t = b))) ∧ Below w.heap.size w w' := by
  unfold bxV
  go_enter Tryz.func108, Tryz.ntmps108
  go_wp2
  all_goals (go_ret; exact ⟨ret_bb (by rw [Bool.eq_iff_iff]; simp_all <;> omega), (by repeat (first | exact Below.refl _ _ | assumption | refine Below.drew ?_ | refine Below.alloc ?_ (by first | exact Nat.le_refl _ | omega | (simp; done) | (simp; omega)) _ | refine Below.setCell ?_ (by first | exact Nat.le_refl _ | omega | (simp; done) | (simp; omega)) _))⟩)
set_option maxHeartbeats 1000000 in
theorem c_boxvalid (l t r b : Int) (w : World) : Calls Tryz.prog 166 #[bxV (l, t, r, b)] w fun e w' => e = .returned (.bool (vbxB (l, t, r, b))) ∧ Below w.heap.size w w' := by
  unfold bxV
  go_enter Tryz.func166, Tryz.ntmps166
  go_wp2_with (go_at_call 182; refine (c_isUnit _ _).mono ?_; rintro e w' ⟨rfl, rfl⟩)
  all_goals (go_ret; exact ⟨ret_bb (by rw [Bool.eq_iff_iff]; simp_all [vbxB, inB] <;> omega), (by repeat (first | exact Below.refl _ _ | assumption | refine Below.drew ?_ | refine Below.alloc ?_ (by first | exact Nat.le_refl _ | omega | (simp; done) | (simp; omega)) _ | refine Below.setCell ?_ (by first | exact Nat.le_refl _ | omega | (simp; done) | (simp; omega)) _))⟩)
set_option maxHeartbeats 1000000 in
theorem c_boxempty (l t r b : Int) (w : World) : Calls Tryz.prog 125 #[bxV (l, t, r, b)] w fun e w' => e = .returned (.bool (decide (r ≤ l ∨ b ≤ t))) ∧ Below w.heap.size w w' := by
  unfold bxV
  go_enter Tryz.func125, Tryz.ntmps125
  go_wp2
  all_goals (go_ret; exact ⟨ret_bb (by rw [Bool.eq_iff_iff]; simp_all <;> omega), (by repeat (first | exact Below.refl _ _ | assumption | refine Below.drew ?_ | refine Below.alloc ?_ (by first | exact Nat.le_refl _ | omega | (simp; done) | (simp; omega)) _ | refine Below.setCell ?_ (by first | exact Nat.le_refl _ | omega | (simp; done) | (simp; omega)) _))⟩)
/-- A list of verbs of one's own, and a word. -/
def RetVb (w w' : World) (e : Ending) (r : List Vb × Bool) : Prop :=
  ∃ A cap ss, e = .returned (.tuple #[.slice A r.1.length cap, .bool r.2]) ∧ OVb w' w.heap.size 45 128 (.slice A r.1.length cap) r.1 ss ∧ Below w.heap.size w w'
theorem RetVb.none {w w' : World} {r : List Vb × Bool} (hr : r = ([], false)) (hb : Below w.heap.size w w') : RetVb w w' (.returned (.tuple #[.slice none 0 0, .bool false])) r := by
  subst hr; exact ⟨Option.none, 0, [], rfl, OVb.nil _ _ _ _, hb⟩
theorem RetVb.some {w w1 w' : World} {r : List Vb × Bool} {A : Option Addr} {n cap : Nat} {vs : List Vb} {ss : List Value} (hr : r = (vs, true)) (ho : OVb w' w1.heap.size 45 128 (.slice A n cap) vs ss) (hn : n = vs.length) (h1 : Ext w w1) (h2 : Ext w1 w') :
    RetVb w w' (.returned (.tuple #[.slice A n cap, .bool true])) r := by
  subst hr hn; exact ⟨A, cap, ss, rfl, ho.rebase h1.size, Ext.trans h1 h2⟩
def boxPts (b : Bx) : List Pt := [(b.1, b.2.1), (b.2.2.1, b.2.1), (b.2.2.1, b.2.2.2), (b.1, b.2.2.2)]
def boxOk (b : Bx) : Bool := vbxB b && decide (b.1 < b.2.2.1 ∧ b.2.1 < b.2.2.2)
def pathL (ok : Bool) (ps : List Pt) : List Vb × Bool := if ok then (polyV ps ++ [(4, [])], true) else ([], false)
theorem pathL_small (ok : Bool) (ps : List Pt) : ∀ v ∈ (pathL ok ps).1, v.2.length ≤ 1 := by
  intro v hv
  unfold pathL at hv
  cases ok
  · simp at hv
  · simp only [if_true, List.mem_append, List.mem_singleton] at hv
    rcases hv with hv | rfl
    · obtain ⟨x, _, rfl⟩ := List.mem_map.1 hv; simp
    · simp
theorem pathL_len (ok : Bool) (ps : List Pt) : (pathL ok ps).1.length ≤ ps.length + 1 := by
  unfold pathL
  cases ok <;> simp [polyV_len]
theorem pts_new (w : World) (e : TypeId) (ps : List Pt) {g : Nat} (hg : g = w.heap.size) {cs : Array Value} (hcs : cs = (ps.flatMap ptC).toArray) : Pts (w.alloc (.cells cs e)) (some ⟨g, 0, none⟩) ps := by
  subst hg hcs
  exact Row.in_ (rest := []) (enc := ptC) ptC_len (by simpa using Row.new w e (ps.flatMap ptC)) (fun _ _ => rfl)
end Go.Proofs.YtagmnbphbakikaaGreat
