/-
  The program's workers: which turns are valid.
-/
import Derived.Test.YtnmnomhoghkdjaaWorkQ
import Derived.Test.YtnmnomhoghkdjaaRegionG
namespace Go.Proofs.Ytnmnomhoghkdjaa
open Go Go.RowKit Reg
attribute [local go_sem] calmAt calmUpon RegG.calmAt RegG.calmUpon
set_option maxHeartbeats 1000000 in
theorem c_wv1 (g : Nat) (W : Int) (t : Pt) (w : World) (hW : 1 ≤ W ∧ W ≤ 4) (hc : w.cell? ⟨g, 0, none⟩ = some (.int .i64 W)) :
    Calls Try.prog 42 #[.agg #[.int .i64 t.1, .int .i64 t.2], .pointer (some ⟨g, 0, none⟩)] w fun e w' => e = .returned (.bool (!trB W t)) ∧ Below w.heap.size w w' := by
  obtain ⟨x, y⟩ := t
  obtain ⟨d1, hd1⟩ : ∃ d, inB x 0 (W - 1) = d := ⟨_, rfl⟩
  obtain ⟨d2, hd2⟩ : ∃ d, inB y 0 (W - 1) = d := ⟨_, rfl⟩
  have Ht : Hid (trB W (x, y) = (d1 && d2)) := Lib.hid (by unfold trB; rw [hd1, hd2])
  rw [Ht.out]
  have Hd1 := Lib.hid hd1
  have Hd2 := Lib.hid hd2
  have hlt := cell_lt hc
  have hne : g ≠ w.heap.size := by dsimp only at hlt; omega
  dsimp only at hlt
  clear hd1 hd2 Ht
  go_enter Try.func42, Try.ntmps42
  go_wp2_with fail
  refine (c_in x 0 (W - 1) _).mono ?_
  rw [Hd1.out]
  rintro e w' ⟨rfl, rfl⟩
  cases d1
  · go_wp2
    go_ret
    exact ⟨rfl, (by repeat (first | exact Below.refl _ _ | assumption | refine Below.drew ?_ | refine Below.alloc ?_ (by first | exact Nat.le_refl _ | omega | (simp; done) | (simp; omega)) _ | refine Below.setCell ?_ (by first | exact Nat.le_refl _ | omega | (simp; done) | (simp; omega)) _))⟩
  · go_wp2_with fail
    refine (c_in y 0 (W - 1) _).mono ?_
    rw [Hd2.out]
    rintro e w' ⟨rfl, rfl⟩
    cases d2
    · go_wp2
      go_ret
      exact ⟨rfl, (by repeat (first | exact Below.refl _ _ | assumption | refine Below.drew ?_ | refine Below.alloc ?_ (by first | exact Nat.le_refl _ | omega | (simp; done) | (simp; omega)) _ | refine Below.setCell ?_ (by first | exact Nat.le_refl _ | omega | (simp; done) | (simp; omega)) _))⟩
    · go_wp2
      go_ret
      exact ⟨rfl, (by repeat (first | exact Below.refl _ _ | assumption | refine Below.drew ?_ | refine Below.alloc ?_ (by first | exact Nat.le_refl _ | omega | (simp; done) | (simp; omega)) _ | refine Below.setCell ?_ (by first | exact Nat.le_refl _ | omega | (simp; done) | (simp; omega)) _))⟩
set_option maxHeartbeats 1000000 in
theorem c_wvIndex (g : Nat) (W : Int) (A : Option Addr) (cap : Nat) (ts : List Pt) (w : World) (hW : 1 ≤ W ∧ W ≤ 4) (hc : w.cell? ⟨g, 0, none⟩ = some (.int .i64 W)) (h : Pts w A ts) (hl : ts.length ≤ 4611686018427387904) :
    Calls Try.prog 46 #[.slice A ts.length cap, .func (.func 42) #[] #[.pointer (some ⟨g, 0, none⟩)]] w fun e w' => ∃ n : Int, e = .returned (.int .i64 n) ∧ (0 ≤ n ↔ ts.all (trB W) = false) ∧ Below w.heap.size w w' := by
  have H := Lib.hid h
  have Hg := Lib.hid hc
  clear h hc
  go_enter Try.func46, Try.ntmps46
  go_wp2
  go_loopw [5, 8] (fun _ i wr => ∃ k : Nat, k ≤ ts.length ∧ i = .int .i64 k ∧ (ts.take k).all (trB W) = true ∧ Below w.heap.size w wr) (fun _ i _ => ts.length - (intOf i).toNat)
  case atStart => exact ⟨0, Nat.zero_le _, rfl, by simp, Below.refl _ _⟩
  case round =>
    obtain ⟨k, hk, rfl, hal, hbw⟩ := hrel
    have hal' := Lib.hid hal
    have E := Lib.hid hbw
    clear hal hbw
    by_cases hlt : k < ts.length
    · obtain ⟨b, off, hA, _hb, hc⟩ := (H.out.ext ptR_stab E.out).pts (by omega)
      obtain ⟨cx, cy⟩ := hc k hlt
      have Hv := Lib.hid (fun (hv : trB W ts[k] = true) => all_take_succ hal'.out hlt hv)
      have Hv2 := Lib.hid (fun (hv : trB W ts[k] = false) => all_false_of hlt hv)
      have KC := Lib.hid (fun Wd hc => c_wv1 g W ts[k] Wd hW hc)
      clear hc
      generalize ts[k] = t at *
      obtain ⟨d, hd⟩ : ∃ d, trB W t = d := ⟨_, rfl⟩
      rw [hd] at KC Hv Hv2
      clear hd
      subst hA
      have hkI : (k : Int) < (ts.length : Int) := by omega
      go_wp2_with fail
      refine (KC.out _ (Cls.cell E.out Hg.out)).mono ?_
      rintro e w1 ⟨rfl, hb⟩
      replace E := Lib.hid (Ext.trans E.out hb)
      clear hb cx cy
      cases d
      · have Hf := Lib.hid (Hv2.out rfl)
        go_wp2
        go_ret
        exact ⟨k, rfl, by simp [Hf.out], E.out⟩
      · have Hn := Lib.hid (Hv.out rfl)
        go_wp2
        go_roundw
        case rel => exact ⟨k + 1, by omega, by go_num, Hn.out, E.out⟩
        case measure => simp [intOf]; omega
    · have hk' : k = ts.length := by omega
      have hall := Lib.hid (all_of_take hal'.out hk')
      clear hk'
      go_wp2
      go_ret
      exact ⟨-1, rfl, by simp [hall.out], E.out⟩
set_option maxHeartbeats 1000000 in
theorem c_wvContains (g : Nat) (W : Int) (A : Option Addr) (cap : Nat) (ts : List Pt) (w : World) (hW : 1 ≤ W ∧ W ≤ 4) (hc : w.cell? ⟨g, 0, none⟩ = some (.int .i64 W)) (h : Pts w A ts) (hl : ts.length ≤ 4611686018427387904) :
    Calls Try.prog 41 #[.slice A ts.length cap, .func (.func 42) #[] #[.pointer (some ⟨g, 0, none⟩)]] w fun e w' => e = .returned (.bool (!ts.all (trB W))) ∧ Below w.heap.size w w' := by
  have K := Lib.hid (c_wvIndex g W A cap ts w hW hc h hl)
  clear h hc
  go_enter Try.func41, Try.ntmps41
  go_wp2_with fail
  refine K.out.mono ?_
  rintro e w1 ⟨n, rfl, hn, hb1⟩
  have Hn := Lib.hid hn
  clear hn
  go_wp2
  go_ret
  exact ⟨ret_bb (by rw [Bool.eq_iff_iff]; simpa using Hn.out), hb1⟩
set_option maxHeartbeats 1000000 in
theorem c_workValid (n W : Int) (A : Option Addr) (cap : Nat) (ts : List Pt) (w : World) (h : Pts w A ts) (hl : ts.length ≤ 4611686018427387904) :
    Calls Try.prog 31 #[.int .i64 n, .int .i64 W, .slice A ts.length cap] w fun e w' => e = .returned (.bool (inB n 0 16 && wvB W ts)) ∧ Below w.heap.size w w' := by
  obtain ⟨d1, hd1⟩ : ∃ d, inB n 0 16 = d := ⟨_, rfl⟩
  obtain ⟨d2, hd2⟩ : ∃ d, inB W 1 4 = d := ⟨_, rfl⟩
  obtain ⟨V, hV⟩ : ∃ V, (inB n 0 16 && wvB W ts) = V := ⟨_, rfl⟩
  rw [hV]
  have HV : Hid (V = (d1 && (d2 && decide (ts.length ≤ 30) && ts.all (trB W)))) := Lib.hid (by rw [← hV, ← hd1, ← hd2]; rfl)
  have Hd1 := Lib.hid hd1
  have Hd2 := Lib.hid hd2
  have H := Lib.hid h
  have E := Lib.hid (Below.refl w.heap.size w)
  clear hd1 hd2 hV h
  go_enter Try.func31, Try.ntmps31
  go_wp2_with fail
  first | refine gen_calls ?_ | refine gen_code ?_ | refine gen_list ?_
  intro w1 hW
  obtain ⟨hb, hR⟩ := new1 hW
  clear hW
  replace E := Lib.hid (Ext.trans E.out hb)
  replace H := Lib.hid (H.out.ext ptR_stab hb)
  clear hb
  have R := Lib.hid hR
  have lR := R.out.lt
  clear hR
  have r0 := R.out.cell_of (i := 0) rfl
  go_wp2_with fail
  refine (c_in n 0 16 _).mono ?_
  rw [Hd1.out]
  rintro e w' ⟨rfl, rfl⟩
  cases d1
  · go_wp2
    go_ret
    exact ⟨ret_bb (by rw [HV.out]; rfl), E.out⟩
  · go_wp2_with fail
    refine (c_in W 1 4 _).mono ?_
    rw [Hd2.out]
    rintro e w' ⟨rfl, rfl⟩
    cases d2
    · go_wp2
      go_ret
      exact ⟨ret_bb (by rw [HV.out]; rfl), E.out⟩
    · have hW := inB_iff.1 Hd2.out
      by_cases h30 : ts.length ≤ 30
      · have h30' : ((ts.length : Nat) : Int) ≤ 30 := by omega
        have KC := Lib.hid (fun Wd hc hP => c_wvContains w.heap.size W A cap ts Wd hW hc hP hl)
        have HV2 : Hid (V = ts.all (trB W)) := Lib.hid (by rw [HV.out]; simp [h30])
        generalize ts.all (trB W) = d at *
        go_wp2_with fail
        clear r0
        refine (KC.out _ (R.out.cell_of (i := 0) rfl) H.out).mono ?_
        rintro e w2 ⟨rfl, hb⟩
        replace E := Lib.hid (Ext.trans E.out hb)
        replace H := Lib.hid (H.out.ext ptR_stab hb)
        replace R := Lib.hid (R.out.ext hb)
        have lR := R.out.lt
        clear hb
        have r0 := R.out.cell_of (i := 0) rfl
        cases d
        · go_wp2
          go_ret
          exact ⟨ret_bb (by rw [HV2.out]), E.out⟩
        · go_wp2
          go_ret
          exact ⟨ret_bb (by rw [HV2.out]), E.out⟩
      · have h30' : ¬ ((ts.length : Nat) : Int) ≤ 30 := by omega
        go_wp2
        go_ret
        exact ⟨ret_bb (by rw [HV.out]; simp; omega), E.out⟩
end Go.Proofs.Ytnmnomhoghkdjaa
