/-
  Verbs marked: what lies behind them is kept.
-/
import Derived.Test.YtkjbkbincmcioaaVbPut
import Derived.Test.YtkjbkbincmcioaaOrg
namespace Go.Proofs.Ytkjbkbincmcioaa
open Go Go.RowKit Reg
attribute [local go_sem] calmAt calmUpon
/-- Blocks below B1, and from B2 on, are as they were. -/
structure Mid (B1 B2 : Nat) (w w' : World) : Prop where
  size : w.heap.size ≤ w'.heap.size
  block : ∀ i, i < w.heap.size → (i < B1 ∨ B2 ≤ i) → w'.heap[i]? = w.heap[i]?
section
variable {B1 B2 : Nat} {w w' w2 : World}
theorem Mid.refl (B1 B2 : Nat) (w : World) : Mid B1 B2 w w := ⟨Nat.le_refl _, fun _ _ _ => rfl⟩
theorem Mid.set {p : Addr} (h : Mid B1 B2 w w') (h1 : B1 ≤ p.block) (h2 : p.block < B2) (u : Value) : Mid B1 B2 w (w'.setCell p u) :=
  ⟨by simpa [World.setCell] using h.size, fun i hi hn => (Below.heap_setCell w' p u i (by rintro rfl; omega)).trans (h.block i hi hn)⟩
theorem Mid.grown {row : Option Nat} (h : Mid B1 B2 w w') (hg : w'.grownBy w2 row) (hr : ∀ k, row = some k → B1 ≤ k ∧ k < B2) : Mid B1 B2 w w2 :=
  ⟨Nat.le_trans h.size hg.size, fun i hi hn => (hg.block i (Nat.lt_of_lt_of_le hi h.size) (fun hh => by have := hr i hh.symm; omega)).trans (h.block i hi hn)⟩
theorem Has.mid {B : Nat} {e : TypeId} {sz n : Nat} {v : Value} {xs : List Value} (h : Has w B e sz v n xs) (hm : Mid B1 B2 w w') (hB : B2 ≤ B) : Has w' B e sz v n xs := by
  refine ⟨h.1, ?_⟩
  rcases h.2 with h0 | ⟨g, cap', cur, h1, h2, h3, h4⟩
  · exact .inl h0
  · have hlt : g < w.heap.size := by
      rcases Nat.lt_or_ge g w.heap.size with h | h
      · exact h
      · rw [Array.getElem?_eq_none h] at h3; cases h3
    exact .inr ⟨g, cap', cur, h1, h2, (hm.block g hlt (.inr (by omega))).trans h3, h4⟩
theorem ORg.mid {B : Nat} {TP TR : TypeId} {v : Value} {rs : List Rg} {ss : List Value} (h : ORg w B TP TR v rs ss) (hm : Mid B1 B2 w w') (hB : B2 ≤ B) : ORg w' B TP TR v rs ss :=
  ⟨h.len, h.out.mid hm hB, fun i hi => (h.inn i hi).mid hm hB, h.nd⟩
theorem OVb.mid {B : Nat} {TP TV : TypeId} {v : Value} {vs : List Vb} {ss : List Value} (h : OVb w B TP TV v vs ss) (hm : Mid B1 B2 w w') (hB : B2 ≤ B) : OVb w' B TP TV v vs ss :=
  ⟨h.len, h.out.mid hm hB, fun i hi => (h.inn i hi).mid hm hB, h.nd⟩
end
set_option maxRecDepth 100000 in
set_option maxHeartbeats 2000000 in
theorem c_markVerbM {w : World} {B B2 : Nat} {A : Option Addr} {cap : Nat} {vs : List Vb} {ss : List Value} (hown : OVb w B 27 54 (.slice A vs.length cap) vs ss) (hB : B ≤ w.heap.size)
    (hn : vs.length ≤ 1048576) (hs : vbSum vs ≤ 1048576) (hv2 : ∀ k, (Value.slice A vs.length cap).ownBlock = some k → k < B2) (hs2 : ∀ (i : Nat) (hi : i < ss.length) k, ss[i].ownBlock = some k → k < B2) :
    Calls Try.prog 10 #[.slice A vs.length cap, .int .i64 1] w fun e w' => e = .returned (.int .i64 (endV 1 vs)) ∧ OVb w' B 27 54 (.slice A vs.length cap) (markV 1 vs) ss ∧ Below B w w' ∧ Mid B B2 w w' := by
  go_enter Try.func10, Try.ntmps10
  go_wp2
  have Hs := Lib.hid hs
  have Hown := Lib.hid hown
  have Hv2 := Lib.hid hv2
  have Hs2 := Lib.hid hs2
  clear hs hown hv2 hs2
  go_loopw [1, 5] (fun kk i wr => ∃ j : Nat, j ≤ vs.length ∧ i = .int .i64 j ∧ kk = .int .i64 (endV 1 (vs.take j)) ∧ OVb wr B 27 54 (.slice A vs.length cap) (mV 1 j vs) ss ∧ Below B w wr ∧ Mid B B2 w wr) (fun _ i _ => vs.length - (intOf i).toNat)
  case atStart => exact ⟨0, Nat.zero_le _, rfl, rfl, by rw [mV_zero]; exact Hown.out, Below.refl _ _, Mid.refl _ _ _⟩
  case round =>
    obtain ⟨j, hj, rfl, rfl, how, hbw, hmd⟩ := hrel
    have hz := hbw.size
    have Md := Lib.hid hmd
    have hbd := endV_eq 1 (vs.take j)
    rw [List.length_take] at hbd
    have hbd2 := vbSum_le vs j
    have hbd3 := Hs.out
    have hml := mV_len 1 j vs
    clear hmd
    by_cases hlt : j < vs.length
    · have Hset := Lib.hid (mV_set (k := 1) hlt)
      have Hlen := Lib.hid how.len
      have Hend : Hid (endV 1 (vs.take (j + 1)) = endV 1 (vs.take j) + 1 + 2 * (vs[j].2.length : Int)) := by rw [List.take_succ_eq_append_getElem hlt, endV_snoc]; exact Lib.hid rfl
      have zj : vs[j].2.length ≤ 1048576 := Nat.le_trans (vbSum_mem (List.getElem_mem hlt)) Hs.out
      have hbdA : 1 ≤ endV 1 (vs.take j) := by omega
      have hbdB : endV 1 (vs.take j) ≤ 5000000 := by omega
      clear hbd hbd2 hbd3
      generalize hkj : endV 1 (vs.take j) = kj at *
      clear hkj
      rw [← hml] at how
      have hjm : j < (mV 1 j vs).length := by omega
      obtain ⟨g, hA, hgB, hg⟩ := own_at how.out (by omega)
      subst hA
      have hgB2 : g < B2 := Hv2.out g rfl
      obtain ⟨z0, z1⟩ := zipC_get how.len hjm
      have c0 := (how.out.cellAt (j * 2) (by omega)).trans z0
      have c1 := (how.out.cellAt (j * 2 + 1) (by omega)).trans z1
      have f0 := how.out.frozenAt (j * 2)
      have hk1 := how.kind TP_ne_TV hjm kj
      have hinn := hk1.inn j (by simpa using hjm)
      obtain ⟨A1, cap1, hs1⟩ := own_form hinn
      have hl1 : ((mV 1 j vs).set j (kj, (mV 1 j vs)[j].2))[j]'(by simpa using hjm) = (kj, vs[j].2) := by rw [List.getElem_set_self, mV_get hlt]
      rw [hl1] at hs1 hinn
      rw [hs1] at c1
      have hown1 : Has (wr.setCell ⟨g, j * 2, none⟩ (.int .i64 kj)) B 27 2 (.slice A1 vs[j].2.length cap1) vs[j].2.length (vs[j].2.flatMap ptC) := by rw [hs1] at hinn; exact hinn
      have hjs : j < ss.length := by rw [Hlen.out]; exact hjm
      have Hs1 : Hid (ss[j] = .slice A1 vs[j].2.length cap1) := Lib.hid hs1
      have Hsb : Hid (∀ k, (Value.slice A1 vs[j].2.length cap1).ownBlock = some k → k < B2) := Lib.hid (fun k hk => Hs2.out j hjs k (by rw [Hs1.out]; exact hk))
      have hk2 : OVb (wr.setCell ⟨g, j * 2, none⟩ (.int .i64 kj)) B 27 54 (.slice (some ⟨g, 0, none⟩) vs.length cap) ((mV 1 j vs).set j (kj, vs[j].2)) ss := by simpa only [hml, mV_get hlt] using hk1
      have Hk2 := Lib.hid hk2
      have Hown1 := Lib.hid hown1
      have Hml := Lib.hid hml
      clear z0 z1 hinn hl1 how hk1 hk2 hs1 hown1 hml
      have ebw : Below B w (wr.setCell ⟨g, j * 2, none⟩ (.int .i64 kj)) := hbw.setCell (by omega) _
      have Md1 : Hid (Mid B B2 w (wr.setCell ⟨g, j * 2, none⟩ (.int .i64 kj))) := Lib.hid (Md.out.set hgB hgB2 _)
      go_wp2_with (go_at_call 27; refine (c_markPointS Hown1.out (kj + 1) (by omega) (by omega) (by omega)).mono ?_; rintro e w1 ⟨rfl, ho1, hg1⟩)
      have hfin : OVb w1 B 27 54 (.slice (some ⟨g, 0, none⟩) vs.length cap) (mV 1 (j + 1) vs) ss := by
        have hk3 := Hk2.out
        have hjl : j < ((mV 1 j vs).set j (kj, vs[j].2)).length := by rw [List.length_set, Hml.out]; exact hlt
        have hlast := hk3.pts TP_ne_TV hjl (ps := mkP (kj + 1) vs[j].2.length) (w' := w1) (by rw [Hs1.out, mkP_len]; exact ho1) (by rw [Hs1.out]; exact hg1)
        rw [List.getElem_set_self, List.set_set] at hlast
        rw [← Hset.out]
        exact hlast
      have hbf : Below B w w1 := own_below ebw Hown1.out hg1 (by simp; omega)
      have Md2 : Hid (Mid B B2 w w1) := Lib.hid (Md1.out.grown hg1 (fun k hk => ⟨(Hown1.out.lt k hk).1, Hsb.out k hk⟩))
      have Hfin := Lib.hid hfin
      clear hfin ho1 hg1 ebw
      go_wp2
      go_roundw
      case rel => exact ⟨j + 1, by omega, by go_num, by rw [Hend.out], Hfin.out, hbf, Md2.out⟩
      case measure => simp [intOf]; omega
    · obtain rfl : j = vs.length := by omega
      clear hbd hbd2 hbd3
      rw [List.take_length, mV_all] at *
      clear hml
      go_wp2
      go_ret
      exact ⟨rfl, how, hbw, Md.out⟩
end Go.Proofs.Ytkjbkbincmcioaa
