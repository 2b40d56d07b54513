/-
  Verbs compared, marked, and marks looked for.
-/
import Derived.Test.YtkjbkbincmcioaaMark
namespace Go.Proofs.Ytkjbkbincmcioaa
open Go Go.RowKit Reg
attribute [local go_sem] calmAt calmUpon
set_option maxHeartbeats 1000000 in
theorem c_eqVerb (a b : Int) (A A' : Option Addr) (cap cap' : Nat) (ps qs : List Pt) (w : World) (h : Pts w A ps) (h' : Pts w A' qs) (hl : ps.length ≤ 1000000000000) (hl' : qs.length ≤ 1000000000000) :
    Calls Try.prog 26 #[.agg #[.int .i64 a, .slice A ps.length cap], .agg #[.int .i64 b, .slice A' qs.length cap']] w fun e w' => e = .returned (.bool (vbEq (a, ps) (b, qs))) ∧ Below w.heap.size w w' := by
  by_cases hab : a = b
  · have hb1 : (a != b) = false := by simp [hab]
    have Hab := Lib.hid hab
    clear hab
    obtain ⟨d, hd⟩ : ∃ d, d = decide (ps = qs) := ⟨_, rfl⟩
    have Hd := Lib.hid hd
    clear hd
    cases d
    all_goals
      go_enter Try.func26, Try.ntmps26
      go_wp2_with fail
      refine (c_eqPointS A A' cap cap' ps qs _ (h.ext ptR_stab (by repeat (first | exact Below.refl _ _ | assumption | refine Below.drew ?_ | refine Below.alloc ?_ (by first | exact Nat.le_refl _ | omega | (simp; done) | (simp; omega)) _ | refine Below.setCell ?_ (by first | exact Nat.le_refl _ | omega | (simp; done) | (simp; omega)) _))) (h'.ext ptR_stab (by repeat (first | exact Below.refl _ _ | assumption | refine Below.drew ?_ | refine Below.alloc ?_ (by first | exact Nat.le_refl _ | omega | (simp; done) | (simp; omega)) _ | refine Below.setCell ?_ (by first | exact Nat.le_refl _ | omega | (simp; done) | (simp; omega)) _))) (by omega) (by omega)).mono ?_; rw [← Hd.out]; rintro e w1 ⟨rfl, hb⟩
      have hb2 : Below w.heap.size w w1 := Ext.trans (by repeat (first | exact Below.refl _ _ | assumption | refine Below.drew ?_ | refine Below.alloc ?_ (by first | exact Nat.le_refl _ | omega | (simp; done) | (simp; omega)) _ | refine Below.setCell ?_ (by first | exact Nat.le_refl _ | omega | (simp; done) | (simp; omega)) _)) hb
      go_wp2
      go_ret
      exact ⟨ret_b (by have h1 := Hd.out; have h2 := Hab.out; subst h2; simpa using h1), hb2⟩
  · have hb1 : (a != b) = true := by simp [hab]
    go_enter Try.func26, Try.ntmps26
    go_wp2
    go_ret
    exact ⟨ret_b (by simp [hab]), (by repeat (first | exact Below.refl _ _ | assumption | refine Below.drew ?_ | refine Below.alloc ?_ (by first | exact Nat.le_refl _ | omega | (simp; done) | (simp; omega)) _ | refine Below.setCell ?_ (by first | exact Nat.le_refl _ | omega | (simp; done) | (simp; omega)) _))⟩
set_option maxHeartbeats 1000000 in
theorem c_eqVerbS (A A' : Option Addr) (cap cap' : Nat) (ps qs : List Vb) (w : World) (h : Vbs w A ps) (h' : Vbs w A' qs) (hl : ps.length ≤ 1000000000000) (hl' : qs.length ≤ 1000000000000)
    (hs : ∀ v ∈ ps, v.2.length ≤ 1000000000000) (hs' : ∀ v ∈ qs, v.2.length ≤ 1000000000000) :
    Calls Try.prog 9 #[.slice A ps.length cap, .slice A' qs.length cap'] w fun e w' => e = .returned (.bool (decide (ps = qs))) ∧ Below w.heap.size w w' := by
  by_cases hlen : ps.length = qs.length
  · go_enter Try.func9, Try.ntmps9
    have hne : (((ps.length : Nat) : Int) != ((qs.length : Nat) : Int)) = false := by simp [hlen]
    have Hlen := Lib.hid hlen
    have Hs := Lib.hid hs
    have Hs' := Lib.hid hs'
    clear hlen hs hs'
    go_wp2
    go_loopw [5] (fun i wr => ∃ k : Nat, k ≤ ps.length ∧ i = .int .i64 k ∧ ps.take k = qs.take k ∧ Below w.heap.size w wr) (fun i _ => ps.length - (intOf i).toNat)
    case atStart => exact ⟨0, Nat.zero_le _, rfl, by simp, Below.refl _ _⟩
    case round =>
      obtain ⟨k, hk, rfl, hal, hbw⟩ := hrel
      have hal' := Lib.hid hal
      clear hal
      by_cases hlt : k < ps.length
      · have hlt' : k < qs.length := by have := Hlen.out; omega
        obtain ⟨b, off, rfl, _hb, hc⟩ := (h.ext verbR_stab hbw).vbs (by omega)
        obtain ⟨b', off', rfl, _hb', hc'⟩ := (h'.ext verbR_stab hbw).vbs (by omega)
        obtain ⟨A1, cap1, cx, cy, hp⟩ := hc k hlt
        obtain ⟨A2, cap2, cx', cy', hp'⟩ := hc' k hlt'
        have z1 : ps[k].2.length ≤ 1000000000000 := Hs.out _ (List.getElem_mem hlt)
        have z2 : qs[k].2.length ≤ 1000000000000 := Hs'.out _ (List.getElem_mem hlt')
        have Hk1 := Lib.hid (take_eq_succ hal'.out hlt hlt' : ps[k] = qs[k] → ps.take (k + 1) = qs.take (k + 1))
        have Hk2 := Lib.hid (ne_of_at hlt hlt' : ps[k] ≠ qs[k] → ps ≠ qs)
        clear h hc h' hc'
        generalize ps[k] = p at *
        generalize qs[k] = q at *
        obtain ⟨a, p⟩ := p
        obtain ⟨a', q⟩ := q
        dsimp only at cx cy cx' cy' hp hp' z1 z2
        go_wp2_with fail
        refine wp_region_calm [0,1,2,3,4,5,6,7,8,9] [] (by kernel_rfl) (by kernel_rfl) ?_
        iterate 8 ((refine calm_yes rfl rfl (fun w' hC => (by have cx := hC.cell cx; have cy := hC.cell cy;  have cx' := hC.cell cx'; have cy' := hC.cell cy'; go_simp; rfl)) (fun K hK => ?_); go_simp; refine hK _ ?_; clear hK K))
        (apply calm_call rfl rfl rfl Try.func26 (by kernel_rfl) rfl (by go_simp; rfl); exact (fun w' hC => c_eqVerb a a' A1 A2 cap1 cap2 p q w' (hp.ext ptR_stab (Below.trans (Below.refl _ wr).drew hC)) (hp'.ext ptR_stab (Below.trans (Below.refl _ wr).drew hC)) z1 z2); intro K hK; go_simp; refine hK _ ?_; clear hK K)
        (refine calm_yes rfl rfl (fun w' hC => (by go_simp; rfl)) (fun K hK => ?_); go_simp; refine hK _ ?_; clear hK K)
        refine calm_done (fun w1 hb1 => ?_)
        obtain ⟨d, hd⟩ : ∃ d, d = vbEq (a, p) (a', q) := ⟨_, rfl⟩
        rw [← hd]
        have Hd := Lib.hid hd
        clear hd
        cases d
        · have hpq : ps ≠ qs := Hk2.out (by have := Hd.out; simpa [vbEq] using this.symm)
          go_wp2
          go_ret
          exact ⟨ret_b (by simp [hpq]), below_ext hbw hb1⟩
        · go_wp2
          go_roundw
          case rel => exact ⟨k + 1, by omega, by go_num, Hk1.out (vbEq_iff.1 Hd.out.symm), below_ext hbw hb1⟩
          case measure => simp [intOf]; omega
      · have hk' : ps = qs := eq_of_take hal'.out (by omega) (by have := Hlen.out; omega)
        have Hk' := Lib.hid hk'
        clear h h' hk'
        go_wp2
        go_ret
        exact ⟨ret_b (by simp [Hk'.out]), hbw⟩
  · have hne : (((ps.length : Nat) : Int) != ((qs.length : Nat) : Int)) = true := by simp; omega
    have hpq : ps ≠ qs := fun h => hlen (by rw [h])
    go_enter Try.func9, Try.ntmps9
    go_wp2
    go_ret
    exact ⟨ret_b (by simp [hpq]), Below.refl _ _⟩
theorem TP_ne_TV : (27 : TypeId) ≠ 54 := by decide
set_option maxHeartbeats 1000000 in
theorem c_markVerbS {w : World} {B : Nat} {A : Option Addr} {cap : Nat} {vs : List Vb} {ss : List Value} (hown : OVb w B 27 54 (.slice A vs.length cap) vs ss) (hB : B ≤ w.heap.size)
    (hn : vs.length ≤ 100000) (hs : ∀ v ∈ vs, v.2.length ≤ 1000000) :
    Calls Try.prog 10 #[.slice A vs.length cap, .int .i64 1] w fun e w' => e = .returned (.int .i64 (endV 1 vs)) ∧ OVb w' B 27 54 (.slice A vs.length cap) (markV 1 vs) ss ∧ Below B w w' := by
  go_enter Try.func10, Try.ntmps10
  go_wp2
  have Hs := Lib.hid hs
  have Hown := Lib.hid hown
  clear hs hown
  go_loopw [1, 5] (fun kk i wr => ∃ j : Nat, j ≤ vs.length ∧ i = .int .i64 j ∧ kk = .int .i64 (endV 1 (vs.take j)) ∧ OVb wr B 27 54 (.slice A vs.length cap) (mV 1 j vs) ss ∧ Below B w wr) (fun _ i _ => vs.length - (intOf i).toNat)
  case atStart => exact ⟨0, Nat.zero_le _, rfl, rfl, by rw [mV_zero]; exact Hown.out, Below.refl _ _⟩
  case round =>
    obtain ⟨j, hj, rfl, rfl, how, hbw⟩ := hrel
    have hz := hbw.size
    have hbd := endV_bd 1 (vs.take j) (fun v hv => Hs.out v (List.mem_of_mem_take hv))
    rw [List.length_take] at hbd
    have hml := mV_len 1 j vs
    by_cases hlt : j < vs.length
    · have Hset := Lib.hid (mV_set (k := 1) hlt)
      have Hlen := Lib.hid how.len
      have Hend : Hid (endV 1 (vs.take (j + 1)) = endV 1 (vs.take j) + 1 + 2 * (vs[j].2.length : Int)) := by rw [List.take_succ_eq_append_getElem hlt, endV_snoc]; exact Lib.hid rfl
      have zj : vs[j].2.length ≤ 1000000 := Hs.out _ (List.getElem_mem hlt)
      generalize hkj : endV 1 (vs.take j) = kj at *
      clear hkj
      rw [← hml] at how
      have hjm : j < (mV 1 j vs).length := by omega
      obtain ⟨g, hA, _, hg⟩ := own_at how.out (by omega)
      subst hA
      obtain ⟨z0, z1⟩ := zipC_get how.len hjm
      have c0 := (how.out.cellAt (j * 2) (by omega)).trans z0
      have c1 := (how.out.cellAt (j * 2 + 1) (by omega)).trans z1
      have f0 := how.out.frozenAt (j * 2)
      have hk1 := how.kind TP_ne_TV hjm kj
      have hinn := hk1.inn j (by simpa using hjm)
      obtain ⟨A1, cap1, hs1⟩ := own_form hinn
      have hl1 : ((mV 1 j vs).set j (kj, (mV 1 j vs)[j].2))[j]'(by simpa using hjm) = (kj, vs[j].2) := by rw [List.getElem_set_self, mV_get hlt]
      rw [hl1] at hs1 hinn
      rw [hs1] at c1
      have hown1 : Has (wr.setCell ⟨g, j * 2, none⟩ (.int .i64 kj)) B 27 2 (.slice A1 vs[j].2.length cap1) vs[j].2.length (vs[j].2.flatMap ptC) := by rw [hs1] at hinn; exact hinn
      have hjs : j < ss.length := by rw [Hlen.out]; exact hjm
      have Hs1 : Hid (ss[j] = .slice A1 vs[j].2.length cap1) := Lib.hid hs1
      have hk2 : OVb (wr.setCell ⟨g, j * 2, none⟩ (.int .i64 kj)) B 27 54 (.slice (some ⟨g, 0, none⟩) vs.length cap) ((mV 1 j vs).set j (kj, vs[j].2)) ss := by simpa only [hml, mV_get hlt] using hk1
      have Hk2 := Lib.hid hk2
      have Hown1 := Lib.hid hown1
      have Hml := Lib.hid hml
      clear z0 z1 hinn hl1 how hk1 hk2 hs1 hown1 hml
      have ebw : Below B w (wr.setCell ⟨g, j * 2, none⟩ (.int .i64 kj)) := hbw.setCell (by omega) _
      go_wp2_with (go_at_call 27; refine (c_markPointS Hown1.out (kj + 1) (by omega) (by omega) (by omega)).mono ?_; rintro e w1 ⟨rfl, ho1, hg1⟩)
      have hfin : OVb w1 B 27 54 (.slice (some ⟨g, 0, none⟩) vs.length cap) (mV 1 (j + 1) vs) ss := by
        have hk3 := Hk2.out
        have hjl : j < ((mV 1 j vs).set j (kj, vs[j].2)).length := by rw [List.length_set, Hml.out]; exact hlt
        have hlast := hk3.pts TP_ne_TV hjl (ps := mkP (kj + 1) vs[j].2.length) (w' := w1) (by rw [Hs1.out, mkP_len]; exact ho1) (by rw [Hs1.out]; exact hg1)
        rw [List.getElem_set_self, List.set_set] at hlast
        rw [← Hset.out]
        exact hlast
      have hbf : Below B w w1 := own_below ebw Hown1.out hg1 (by simp; omega)
      have Hfin := Lib.hid hfin
      clear hfin ho1 hg1 ebw
      go_wp2
      go_roundw
      case rel => exact ⟨j + 1, by omega, by go_num, by rw [Hend.out], Hfin.out, hbf⟩
      case measure => simp [intOf]; omega
    · obtain rfl : j = vs.length := by omega
      rw [List.take_length, mV_all] at *
      clear hml
      go_wp2
      go_ret
      exact ⟨rfl, how, hbw⟩
set_option maxHeartbeats 1000000 in
theorem c_heldVerbS (A : Option Addr) (cap : Nat) (vs : List Vb) (w : World) (h : Vbs w A (markV 1 vs)) (hn : vs.length ≤ 100000) (hs : ∀ v ∈ vs, v.2.length ≤ 1000000) :
    Calls Try.prog 11 #[.slice A vs.length cap, .int .i64 1] w fun e w' => e = .returned (.int .i64 (endV 1 vs)) ∧ Below w.heap.size w w' := by
  go_enter Try.func11, Try.ntmps11
  go_wp2
  have Hs := Lib.hid hs
  clear hs
  go_loopw [1, 5] (fun kk i wr => ∃ j : Nat, j ≤ vs.length ∧ i = .int .i64 j ∧ kk = .int .i64 (endV 1 (vs.take j)) ∧ Below w.heap.size w wr) (fun _ i _ => vs.length - (intOf i).toNat)
  case atStart => exact ⟨0, Nat.zero_le _, rfl, rfl, Below.refl _ _⟩
  case round =>
    obtain ⟨j, hj, rfl, rfl, hbw⟩ := hrel
    have hbd := endV_bd 1 (vs.take j) (fun v hv => Hs.out v (List.mem_of_mem_take hv))
    rw [List.length_take] at hbd
    by_cases hlt : j < vs.length
    · have hml := markV_len 1 vs
      obtain ⟨b, off, rfl, _hb, hc⟩ := (h.ext verbR_stab hbw).vbs (by omega)
      obtain ⟨A1, cap1, cx, cy, hp⟩ := hc j (by omega)
      have hat : (markV 1 vs)[j]'(by omega) = (endV 1 (vs.take j), mkP (endV 1 (vs.take j) + 1) vs[j].2.length) := by
        have q : (mV 1 (j + 1) vs)[j]'(by rw [mV_len]; exact hlt) = (endV 1 (vs.take j), mkP (endV 1 (vs.take j) + 1) vs[j].2.length) := by
          simp only [← mV_set (k := 1) hlt, List.getElem_set_self]
        have q2 : (markV 1 vs)[j]? = (mV 1 (j + 1) vs)[j]? := by
          unfold mV
          rw [List.getElem?_append_left (by rw [markV_len, List.length_take]; omega)]
          have e := List.take_append_drop (j + 1) vs
          have key : ∀ (a b : List Vb) (k : Int) (i : Nat), i < a.length → (markV k (a ++ b))[i]? = (markV k a)[i]? := by
            intro a
            induction a with
            | nil => intro b k i hi; simp at hi
            | cons x a ih =>
              intro b k i hi
              cases i with
              | zero => rfl
              | succ i => simpa [markV] using ih b _ i (by simpa using hi)
          have := key (vs.take (j + 1)) (vs.drop (j + 1)) 1 j (by rw [List.length_take]; omega)
          rwa [e] at this
        rw [List.getElem?_eq_getElem (by omega), List.getElem?_eq_getElem (by rw [mV_len]; exact hlt)] at q2
        injection q2 with q2
        rw [q2, q]
      have Hend : Hid (endV 1 (vs.take (j + 1)) = endV 1 (vs.take j) + 1 + 2 * (vs[j].2.length : Int)) := by rw [List.take_succ_eq_append_getElem hlt, endV_snoc]; exact Lib.hid rfl
      have zj : vs[j].2.length ≤ 1000000 := Hs.out _ (List.getElem_mem hlt)
      rw [hat] at cx cy hp
      dsimp only at cx cy hp
      rw [mkP_len] at cy
      generalize hkj : endV 1 (vs.take j) = kj at *
      clear hkj hat h hc hml
      go_wp2_with (go_at_call 28; refine (c_heldPointS A1 cap1 vs[j].2.length _ (kj + 1) hp (by omega) (by omega) (by omega)).mono ?_; rintro e w1 ⟨rfl, hb1⟩)
      go_roundw
      case rel => exact ⟨j + 1, by omega, by go_num, by rw [Hend.out], below_ext hbw hb1⟩
      case measure => simp [intOf]; omega
    · obtain rfl : j = vs.length := by omega
      rw [List.take_length] at *
      clear h
      go_wp2
      go_ret
      exact ⟨rfl, hbw⟩
end Go.Proofs.Ytkjbkbincmcioaa
