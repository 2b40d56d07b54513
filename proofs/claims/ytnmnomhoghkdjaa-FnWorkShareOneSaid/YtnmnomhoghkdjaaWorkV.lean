/-
  The reference's queues at the beginning, and what its workers draw: the walks.
-/
import Derived.Test.YtnmnomhoghkdjaaWorkR
namespace Go.Proofs.Ytnmnomhoghkdjaa
open Go Go.RowKit Reg
attribute [local go_sem] calmAt calmUpon
theorem qOf_low {W k : Nat} (h : k < W) : qOf W k k = [] := by
  unfold qOf
  rw [List.map_eq_nil_iff, List.filter_eq_nil_iff]
  intro t ht
  have := List.mem_range.1 ht
  rw [Nat.mod_eq_of_lt (by omega)]
  simp; omega
/-- Turns that are among the workers. -/
def trB (W : Int) (t : Pt) : Bool := inB t.1 0 (W - 1) && inB t.2 0 (W - 1)
def wvB (W : Int) (ts : List Pt) : Bool := inB W 1 4 && decide (ts.length ≤ 30) && ts.all (trB W)
def workR (n W : Int) (ts : List Pt) : List Pt := if inB n 0 16 && wvB W ts then workL W.toNat n.toNat ts else []
theorem wvB_sc {W : Int} {ts : List Pt} (h : wvB W ts = true) : (1 ≤ W ∧ W ≤ 4) ∧ ts.length ≤ 30 ∧ ScOk W.toNat ts := by
  unfold wvB at h
  simp only [Bool.and_eq_true, decide_eq_true_eq, List.all_eq_true] at h
  obtain ⟨⟨h1, h2⟩, h3⟩ := h
  have h1 := inB_iff.1 h1
  refine ⟨h1, h2, fun t ht => ?_⟩
  have h4 := h3 t ht
  unfold trB at h4
  simp only [Bool.and_eq_true] at h4
  have h5 := inB_iff.1 h4.1
  have h6 := inB_iff.1 h4.2
  omega
theorem dq_row3 {w8 : World} {n7 t : Nat} {d : Dq} {xs : List Int} {rs : List Value} (u0 u1 u2 : Value) (h : DqAt w8 d t xs) (hR : Row w8 n7 71 rs) : DqAt (((w8.setCell ⟨n7, 0, none⟩ u0).setCell ⟨n7, 1, none⟩ u1).setCell ⟨n7, 2, none⟩ u2) d t xs := by
  obtain ⟨h1, h2, h3, h4, h5⟩ := h
  have G : w8.grownBy (((w8.setCell ⟨n7, 0, none⟩ u0).setCell ⟨n7, 1, none⟩ u1).setCell ⟨n7, 2, none⟩ u2) (some n7) := only_set (only_set (only_set (only_refl w8 _) 0 _) 1 _) 2 _
  exact ⟨h1, h2, h3, h4.kept G (.inr fun hh => ne_block hR h4 (Ne.symm NE_DI) hh.symm), h5⟩
theorem ds_row3 {w8 : World} {n7 : Nat} {ds : List Dq} {qs : List (List Int)} {rs : List Value} (u0 u1 u2 : Value) (h : DsAre w8 ds qs) (hR : Row w8 n7 71 rs) : DsAre (((w8.setCell ⟨n7, 0, none⟩ u0).setCell ⟨n7, 1, none⟩ u1).setCell ⟨n7, 2, none⟩ u2) ds qs :=
  ⟨h.1, fun i h1 h2 => by obtain ⟨t, h⟩ := h.2 i h1 h2; exact ⟨t, dq_row3 u0 u1 u2 h hR⟩⟩
theorem has_row3 {w8 : World} {n7 B e sz n : Nat} {v : Value} {cs : List Value} (u0 u1 u2 : Value) (h : Has w8 B e sz v n cs) (hg : ∀ g, v.ownBlock = some g → g < n7) : Has (((w8.setCell ⟨n7, 0, none⟩ u0).setCell ⟨n7, 1, none⟩ u1).setCell ⟨n7, 2, none⟩ u2) B e sz v n cs := by
  have G : w8.grownBy (((w8.setCell ⟨n7, 0, none⟩ u0).setCell ⟨n7, 1, none⟩ u1).setCell ⟨n7, 2, none⟩ u2) (some n7) := only_set (only_set (only_set (only_refl w8 _) 0 _) 1 _) 2 _
  refine h.kept G ?_
  cases hv : v.ownBlock with
  | none => exact .inl rfl
  | some g => exact .inr fun hh => by injection hh with hh; have := hg g hv; omega
set_option maxRecDepth 100000 in
set_option maxHeartbeats 4000000 in
theorem c_start (n W : Nat) (w : World) (hn : n ≤ 16) (hW : W ≤ 4) :
    Calls Try.prog 44 #[.int .i64 n, .int .i64 W] w fun e w' => ∃ A cap ds, e = .returned (.slice A ds.length cap) ∧ Has w' w.heap.size 71 3 (.slice A ds.length cap) ds.length (ds.flatMap dqC) ∧ DsAre w' ds (qs0 W n) ∧ Below w.heap.size w w' := by
  have E := Lib.hid (Below.refl w.heap.size w)
  go_enter Try.func44, Try.ntmps44
  go_wp2_with fail
  first | refine gen_calls ?_ | refine gen_code ?_ | refine gen_list ?_
  intro w0 hW
  obtain ⟨hb, hR⟩ := new1 hW
  clear hW
  replace E := Lib.hid (Ext.trans E.out hb)
  clear hb
  have R := Lib.hid hR
  have lR := R.out.lt
  clear hR
  have O := Lib.hid (own_of_row (n := 0) (B := w.heap.size) (sz := 3) R.out (Nat.le_refl _) rfl (by decide))
  clear R lR
  go_wp2_with fail
  go_loopw [5, 6, 7, 8] (fun o r _ _ wr => ∃ (k : Nat) (A1 : Option Addr) (cap1 : Nat) (ds : List Dq), k ≤ W ∧ r = .int .i64 k ∧ o = .slice A1 ds.length cap1 ∧ Has wr w.heap.size 71 3 (.slice A1 ds.length cap1) ds.length (ds.flatMap dqC) ∧ DsAre wr ds ((List.range k).map (qOf W n)) ∧ Below w.heap.size w wr) (fun _ r _ _ _ => W - (intOf r).toNat)
  case atStart => exact ⟨0, _, 0, [], Nat.zero_le _, rfl, rfl, O.out, DsAre.nil _, E.out⟩
  case round =>
    obtain ⟨k, A1, cap1, ds, hk, rfl, rfl, hor, hda, hbw⟩ := hrel
    clear O E
    have O := Lib.hid hor
    have E := Lib.hid hbw
    have Ds := Lib.hid hda
    have hdl : ds.length ≤ 4 := by have := hda.1; simp at this; omega
    have hzr : w.heap.size ≤ wr.heap.size := hbw.size
    clear hor hbw hda
    by_cases hlt : k < W
    · have hltI : decide ((k : Int) < (W : Int)) = true := by simp; omega
      go_wp2_with fail
      refine (c_NewDeque _).mono ?_
      rintro e w1 ⟨d, rfl, hd, hb⟩
      replace E := Lib.hid (Ext.trans E.out hb)
      replace O := Lib.hid (own_ext O.out hb)
      replace Ds := Lib.hid (Ds.out.ext hb)
      clear hb
      have HD := Lib.hid hd
      clear hd
      have hw1 : w.heap.size ≤ w1.heap.size := E.out.size
      have Og := Lib.hid (fun g hg => (O.out.lt g hg).2)
      go_wp2_with fail
      first | refine gen_calls ?_ | refine gen_code ?_ | refine gen_list ?_
      intro w2 hW
      obtain ⟨hb, hR⟩ := new1 hW
      clear hW
      replace E := Lib.hid (Ext.trans E.out hb)
      replace O := Lib.hid (own_ext O.out hb)
      replace Ds := Lib.hid (Ds.out.ext hb)
      replace HD := Lib.hid (HD.out.ext hb)
      clear hb
      have R := Lib.hid hR
      have lR := R.out.lt
      clear hR
      obtain ⟨wo, hwo⟩ : ∃ wo : World, wo = w2 := ⟨_, rfl⟩
      subst hwo
      have hwk : W - k < 100 := by omega
      go_wp2_with fail
      go_loopw [8] (fun t wr => ∃ (j : Nat) (d : Dq) (xs : List Int), k ≤ j ∧ j < n + W ∧ j % W = k ∧ t = .int .i64 j ∧ xs = qOf W j k ∧ Row wr w1.heap.size 71 (dqC d) ∧ DqAt wr d 0 xs ∧ Has wr w.heap.size 71 3 (.slice A1 ds.length cap1) ds.length (ds.flatMap dqC) ∧ DsAre wr ds ((List.range k).map (qOf W n)) ∧ Below w.heap.size w wr) (fun t _ => n - (intOf t).toNat)
      case atStart => exact ⟨k, d, [], Nat.le_refl _, by omega, Nat.mod_eq_of_lt hlt, rfl, (qOf_low hlt).symm, R.out, HD.out, O.out, Ds.out, E.out⟩
      case round =>
        obtain ⟨j, d, xs, hkj, hjn, hjm, rfl, hxs, hr, hd, hor, hda, hbw⟩ := hrel
        clear O E Ds HD R
        have R := Lib.hid hr
        have HD := Lib.hid hd
        have O := Lib.hid hor
        have E := Lib.hid hbw
        have Ds := Lib.hid hda
        have hxl : xs.length ≤ j := by rw [hxs]; exact qOf_len _ _ _
        have Hxs := Lib.hid hxs
        have Hjm := Lib.hid hjm
        have hzr2 : w.heap.size ≤ wr.heap.size := hbw.size
        have lR := R.out.lt
        clear hor hbw hda hr hd hxs hjm
        by_cases hlj : j < n
        · have hljI : decide ((j : Int) < (n : Int)) = true := by simp; omega
          have Hn : Hid (xs ++ [(j : Int)] = qOf W (j + W) k) := Lib.hid (by rw [Hxs.out, qOf_next hlt Hjm.out])
          have KP := Lib.hid (fun Wd hW => c_PushTile d 0 xs (j : Int) Wd hW (by omega) (by omega))
          have r0 := R.out.cell_of (i := 0) rfl
          have zr0 := R.out.frozen 0
          have r1 := R.out.cell_of (i := 1) rfl
          have zr1 := R.out.frozen 1
          have r2 := R.out.cell_of (i := 2) rfl
          have zr2 := R.out.frozen 2
          go_wp2_with fail
          clear r0 zr0 r1 zr1 r2 zr2
          refine (KP.out _ HD.out).mono ?_
          rintro e w3 ⟨d', rfl, hd', hb⟩
          replace R := Lib.hid (R.out.ext hb)
          have lR := R.out.lt
          replace HD := Lib.hid (HD.out.ext hb)
          replace O := Lib.hid (own_ext O.out hb)
          replace Ds := Lib.hid (Ds.out.ext hb)
          replace E := Lib.hid (Ext.trans E.out hb)
          clear hb
          have r0 := R.out.cell_of (i := 0) rfl
          have zr0 := R.out.frozen 0
          have r1 := R.out.cell_of (i := 1) rfl
          have zr1 := R.out.frozen 1
          have r2 := R.out.cell_of (i := 2) rfl
          have zr2 := R.out.frozen 2
          replace HD := Lib.hid hd'
          clear hd'
          go_wp2
          go_roundw
          case rel => exact ⟨j + W, d', _, by omega, by omega, by rw [Nat.add_mod_right]; exact Hjm.out, by go_num, Hn.out, ((R.out.set_ 0 _).set_ 1 _).set_ 2 _, dq_row3 _ _ _ HD.out R.out, has_row3 _ _ _ O.out Og.out, ds_row3 _ _ _ Ds.out R.out, ((E.out.setCell (by exact hw1) _).setCell (by exact hw1) _).setCell (by exact hw1) _⟩
          case measure => simp [intOf]; omega
        · have hljI : decide ((j : Int) < (n : Int)) = false := by simp; omega
          have Hf : Hid ((List.range k).map (qOf W n) ++ [xs] = (List.range (k + 1)).map (qOf W n)) := Lib.hid (by
            rw [List.range_succ, List.map_append, List.map_cons, List.map_nil, Hxs.out, qOf_gap Hjm.out (by omega) hjn])
          have r0 := R.out.cell_of (i := 0) rfl
          have r1 := R.out.cell_of (i := 1) rfl
          have r2 := R.out.cell_of (i := 2) rfl
          go_wp2_with (at_builtin; refine wpList_app (base := w.heap.size) ei_dq rfl (.tmp 29) (.tmp 31) rfl rfl (own_ext O.out (ext_alloc _ _)) rfl (src_new _ _ [_, _, _] (m := 1) rfl (by intro u hu; simp only [List.mem_cons, List.not_mem_nil, or_false] at hu; rcases hu with rfl | rfl | rfl <;> rfl)) (by omega) (by simp; omega) ?_; intro ve w5 hown hg hat; refine stop_in ?_)
          refine stop_out ?_
          obtain ⟨A3, cap3, hve⟩ := own_form hown
          replace Ds := Lib.hid (((Ds.out.ext (ext_alloc _ _)).grown (own_ext O.out (ext_alloc _ _)) NE_DI hg).snoc ⟨0, (HD.out.ext (ext_alloc _ _)).grown (own_ext O.out (ext_alloc _ _)) NE_DI hg⟩)
          clear r0 r1 r2
          replace E := Lib.hid (Below.grown (Ext.trans E.out (ext_alloc _ _)) hg (by simp; omega) (fun k hk => by have := (O.out.lt k hk).1; omega))
          have heq : ds ++ [d] = (ds ++ [d]) := rfl
          replace O : Hid (Has w5 w.heap.size 71 3 (.slice A3 ((ds ++ [d])).length cap3) ((ds ++ [d])).length (((ds ++ [d])).flatMap dqC)) := Lib.hid (by
            have q := hown
            rw [hve] at q
            rw [← heq, List.flatMap_append, List.length_append]
            exact q)
          have hvf : ve = .slice A3 ((ds ++ [d])).length cap3 := by rw [hve, ← heq, List.length_append]; rfl
          clear hve
          clear hown hg hat heq
          subst hvf
          rw [Hf.out] at Ds
          go_wp2
          go_roundw
          case rel => exact ⟨k + 1, A3, cap3, _, by omega, by go_num, rfl, O.out, Ds.out, E.out⟩
          case measure => simp [intOf]; omega
    · have hltI : decide ((k : Int) < (W : Int)) = false := by simp; omega
      obtain rfl : k = W := by omega
      go_wp2
      go_ret
      exact ⟨A1, cap1, ds, rfl, O.out, Ds.out, E.out⟩
end Go.Proofs.Ytnmnomhoghkdjaa
