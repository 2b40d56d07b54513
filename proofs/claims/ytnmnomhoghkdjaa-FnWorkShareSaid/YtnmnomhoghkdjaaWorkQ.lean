/-
  The reference's order and shares of work: the walks.
-/
import Derived.Test.YtnmnomhoghkdjaaWorkO
namespace Go.Proofs.Ytnmnomhoghkdjaa
open Go Go.RowKit Reg
attribute [local go_sem] calmAt calmUpon
/-- How many tiles each worker draws. -/
def shareL (W : Nat) (L : List Pt) : List Int := (List.range W).map fun r : Nat => ((L.countP (fun d => decide (d.1 = (r : Int))) : Nat) : Int)
def shareR (n W : Int) (ts : List Pt) : List Int := if inB n 0 16 && wvB W ts then shareL W.toNat (workL W.toNat n.toNat ts) else []
theorem shareL_len (W : Nat) (L : List Pt) : (shareL W L).length = W := by simp [shareL]
theorem shareL_get {W r : Nat} {L : List Pt} (h : r < W) : (shareL W L)[r]'(by rw [shareL_len]; exact h) = ((L.countP (fun d => decide (d.1 = (r : Int))) : Nat) : Int) := by simp [shareL]
theorem shareL_nil (W : Nat) : shareL W [] = List.replicate W 0 := by
  unfold shareL
  apply List.ext_getElem (by simp)
  intro i h1 h2
  simp
theorem shareL_snoc {W r : Nat} {L : List Pt} {d : Pt} (hr : d.1 = (r : Int)) (h : r < W) : shareL W (L ++ [d]) = (shareL W L).set r ((shareL W L)[r]'(by rw [shareL_len]; exact h) + 1) := by
  apply List.ext_getElem (by simp [shareL])
  intro i h1 h2
  have hi : i < W := by rw [shareL_len] at h1; exact h1
  rw [shareL_get hi, List.countP_append]
  by_cases hir : r = i
  · subst hir
    rw [List.getElem_set_self, shareL_get hi]
    simp [hr]
  · rw [List.getElem_set_ne hir, shareL_get hi]
    have : ¬ d.1 = (i : Int) := by omega
    simp [this]
theorem shareL_bd {W : Nat} {L : List Pt} : ∀ x ∈ shareL W L, 0 ≤ x ∧ x ≤ L.length := by
  intro x hx
  unfold shareL at hx
  obtain ⟨r, _, rfl⟩ := List.mem_map.1 hx
  have := List.countP_le_length (p := fun d : Pt => decide (d.1 = (r : Int))) (l := L)
  omega
/-- Numbers returned, in a row of their own. -/
def RetNs (w : World) (L : List Int) (e : Ending) (w' : World) : Prop := ∃ A cap, e = .returned (.slice A L.length cap) ∧ Has w' w.heap.size 3 1 (.slice A L.length cap) L.length (L.flatMap intC) ∧ Below w.heap.size w w'
theorem RetNs.none {w w' : World} {L : List Int} (h : L = []) (hb : Below w.heap.size w w') : RetNs w L (.returned (.slice Option.none 0 0)) w' := by subst h; exact ⟨Option.none, 0, rfl, own_nil _ _ _ _, hb⟩
theorem make_ints (W : Nat) (hW : W ≤ 1000) (w : World) : (Instr.makeSlice 29 (.int .i64 (W : Int)) (.int .i64 (W : Int))).run Try.prog w = .ok (.slice (some ⟨w.heap.size, 0, none⟩) W W) (w.alloc (.cells ((List.replicate W (0 : Int)).flatMap intC).toArray 3)) := by
  have := run_make_fill ei_int intC (List.replicate W (0 : Int)) (by simp; omega) w
  rw [fillC_zero] at this
  have e : (List.replicate (List.replicate W (0 : Int)).length [Value.int .i64 0]).flatten = (List.replicate W (0 : Int)).flatMap intC := by simp [List.flatMap_replicate, intC]
  rw [e] at this
  simpa using this
set_option maxHeartbeats 2000000 in
theorem c_sWorkOrder (n W : Int) (A : Option Addr) (cap : Nat) (sc : List Pt) (w : World) (h : Pts w A sc) (hl : sc.length ≤ 4611686018427387904) :
    Calls Try.prog 11 #[.int .i64 n, .int .i64 W, .slice A sc.length cap] w fun e w' => RetDn w (workR n W sc) e w' := by
  obtain ⟨S, hS⟩ : ∃ S, workR n W sc = S := ⟨_, rfl⟩
  rw [hS]
  obtain ⟨d1, hd1⟩ : ∃ d, inB n 0 16 = d := ⟨_, rfl⟩
  obtain ⟨d2, hd2⟩ : ∃ d, wvB W sc = d := ⟨_, rfl⟩
  have HS : Hid (S = if (d1 && d2) = true then workL W.toNat n.toNat sc else []) := Lib.hid (by rw [← hS]; unfold workR; rw [hd1, hd2])
  have H1 := Lib.hid hd1
  have H2 := Lib.hid hd2
  have H := Lib.hid h
  have K2 := Lib.hid (fun Wd hW => c_validTurns W A cap sc Wd hW hl)
  rw [hd2] at K2
  clear h hS hd1 hd2
  go_enter Try.func11, Try.ntmps11
  go_wp2_with fail
  refine (c_inRange n 0 16 _).mono ?_
  rw [H1.out]
  rintro e w' ⟨rfl, rfl⟩
  cases d1
  · go_wp2
    go_ret
    exact RetDn.none (by rw [HS.out]; rfl) (Below.refl _ _)
  · go_wp2_with fail
    refine (K2.out _ H.out).mono ?_
    rintro e w' ⟨rfl, rfl⟩
    cases d2
    · go_wp2
      go_ret
      exact RetDn.none (by rw [HS.out]; rfl) (Below.refl _ _)
    · have hn := inB_iff.1 H1.out
      obtain ⟨hW, h30, hsc⟩ := wvB_sc H2.out
      obtain ⟨wn, rfl⟩ : ∃ wn : Nat, W = wn := ⟨W.toNat, by omega⟩
      obtain ⟨nn, rfl⟩ : ∃ nn : Nat, n = nn := ⟨n.toNat, by omega⟩
      have KR := Lib.hid (c_run nn wn A cap sc w H.out (by omega) (by omega) (by omega) h30 (by simpa using hsc))
      have Hf : Hid (workL wn nn sc = S) := Lib.hid (by rw [HS.out]; simp)
      rw [Hf.out] at KR
      clear hsc
      go_wp2_with fail
      refine KR.out.mono ?_
      rintro e w2 ⟨A', cap', rfl, ho, hb⟩
      have O := Lib.hid ho
      have E := Lib.hid hb
      clear ho hb
      go_wp2
      go_ret
      exact ⟨A', cap', rfl, O.out, E.out⟩
set_option maxRecDepth 100000 in
set_option maxHeartbeats 4000000 in
theorem c_sWorkShare (n W : Int) (A : Option Addr) (cap : Nat) (sc : List Pt) (w : World) (h : Pts w A sc) (hl : sc.length ≤ 4611686018427387904) :
    Calls Try.prog 16 #[.int .i64 n, .int .i64 W, .slice A sc.length cap] w fun e w' => RetNs w (shareR n W sc) e w' := by
  obtain ⟨S, hS⟩ : ∃ S, shareR n W sc = S := ⟨_, rfl⟩
  rw [hS]
  obtain ⟨d1, hd1⟩ : ∃ d, inB n 0 16 = d := ⟨_, rfl⟩
  obtain ⟨d2, hd2⟩ : ∃ d, wvB W sc = d := ⟨_, rfl⟩
  have HS : Hid (S = if (d1 && d2) = true then shareL W.toNat (workL W.toNat n.toNat sc) else []) := Lib.hid (by rw [← hS]; unfold shareR; rw [hd1, hd2])
  have H1 := Lib.hid hd1
  have H2 := Lib.hid hd2
  have H := Lib.hid h
  have K2 := Lib.hid (fun Wd hW => c_validTurns W A cap sc Wd hW hl)
  rw [hd2] at K2
  clear h hS hd1 hd2
  go_enter Try.func16, Try.ntmps16
  go_wp2_with fail
  refine (c_inRange n 0 16 _).mono ?_
  rw [H1.out]
  rintro e w' ⟨rfl, rfl⟩
  cases d1
  · go_wp2
    go_ret
    exact RetNs.none (by rw [HS.out]; rfl) (Below.refl _ _)
  · go_wp2_with fail
    refine (K2.out _ H.out).mono ?_
    rintro e w' ⟨rfl, rfl⟩
    cases d2
    · go_wp2
      go_ret
      exact RetNs.none (by rw [HS.out]; rfl) (Below.refl _ _)
    · have hn := inB_iff.1 H1.out
      obtain ⟨hW, h30, hsc⟩ := wvB_sc H2.out
      obtain ⟨wn, rfl⟩ : ∃ wn : Nat, W = wn := ⟨W.toNat, by omega⟩
      obtain ⟨nn, rfl⟩ : ∃ nn : Nat, n = nn := ⟨n.toNat, by omega⟩
      have hsc' : ScOk wn sc := by simpa using hsc
      have KR := Lib.hid (fun Wd hWd => c_run nn wn A cap sc Wd hWd (by omega) (by omega) (by omega) h30 hsc')
      have Hwk := Lib.hid (fun d hd => workL_workers (W := wn) (n := nn) (sc := sc) (by omega) hsc' d hd)
      have hln := workL_len (W := wn) (n := nn) (sc := sc) (by omega) (by omega) (by omega) hsc' h30
      have Hf : Hid (shareL wn (workL wn nn sc) = S) := Lib.hid (by rw [HS.out]; simp)
      generalize workL wn nn sc = L at *
      have hL16 : L.length ≤ 16 := by omega
      have hmk := make_ints wn (by omega)
      have E := Lib.hid (Below.refl w.heap.size w)
      clear hsc hsc' hln HS H1 H2 K2 hl h30
      go_wp2_with fail
      go_wp2_with fail
      first | refine gen_calls ?_ | refine gen_code ?_ | refine gen_list ?_
      intro w1 hW
      obtain ⟨hb, hX⟩ := new1 hW
      clear hW
      replace E := Lib.hid (Ext.trans E.out hb)
      replace H := Lib.hid (H.out.ext ptR_stab hb)
      clear hb
      have X := Lib.hid hX
      have lX := X.out.lt
      clear hX
      clear hmk
      go_wp2_with fail
      refine (KR.out _ H.out).mono ?_
      rintro e w2 ⟨A', cap', rfl, ho, hb⟩
      replace E := Lib.hid (Ext.trans E.out hb)
      replace H := Lib.hid (H.out.ext ptR_stab hb)
      replace X := Lib.hid (X.out.ext hb)
      have lX := X.out.lt
      clear hb
      have P := Lib.hid (ho.rebase (show w.heap.size ≤ w1.heap.size by omega))
      clear ho
      rw [← shareL_nil] at X
      go_wp2_with fail
      go_loopw [9] (fun i wr => ∃ (k : Nat) (ns : List Int), k ≤ L.length ∧ i = .int .i64 k ∧ ns = shareL wn (L.take k) ∧ Row wr w.heap.size 3 (ns.flatMap intC) ∧ Has wr w.heap.size 31 2 (.slice A' L.length cap') L.length (L.flatMap ptC) ∧ Below w.heap.size w wr) (fun i _ => L.length - (intOf i).toNat)
      case atStart => exact ⟨0, _, Nat.zero_le _, rfl, by rw [List.take_zero], X.out, P.out, E.out⟩
      case round =>
        obtain ⟨k, ns, hk, rfl, hns, hx, hp, hbw⟩ := hrel
        clear X P E
        have X := Lib.hid hx
        have P := Lib.hid hp
        have E := Lib.hid hbw
        have hnl : ns.length = wn := by rw [hns, shareL_len]
        have Hnl := Lib.hid hnl
        have Hns := Lib.hid hns
        have lX := X.out.lt
        clear hx hp hbw hns
        by_cases hlt : k < L.length
        · obtain ⟨b, off, hA, hb, hc⟩ := (own_in (R := ptR) (enc := ptC) ptC_len (by decide) P.out (fun _ => rfl) : Pts wr A' L).pts (by omega)
          obtain ⟨cx, cy⟩ := hc k hlt
          have hd := Hwk.out L[k] (List.getElem_mem hlt)
          obtain ⟨r, hr⟩ : ∃ r : Nat, L[k].1 = (r : Int) := ⟨L[k].1.toNat, by omega⟩
          have hrW : r < wn := by omega
          have Hn : Hid (ns.set r (ns[r]'(by omega) + 1) = shareL wn (L.take (k + 1))) := Lib.hid (by
            rw [List.take_succ_eq_append_getElem hlt, shareL_snoc hr hrW]
            simp only [Hns.out])
          have hvb : 0 ≤ ns[r]'(by omega) ∧ ns[r]'(by omega) ≤ 16 := by
            have hm : ns[r]'(by omega) ∈ shareL wn (L.take k) := by rw [← Hns.out]; exact List.getElem_mem _
            have := shareL_bd _ hm
            rw [List.length_take] at this
            omega
          have cr := X.out.cell_of (i := r) (intC_get ns (by omega))
          have fr := X.out.frozen r
          have Hst := Lib.hid (fun x => intC_set ns (k := r) (by have := Hnl.out; omega) x)
          rw [hr] at cx
          generalize ns[r]'(by omega) = s at *
          have hws : IntKind.i64.wrap (s + 1) = s + 1 := IntWalk.i64_in _ (by omega)
          have hkd : decide ((k : Int) < (L.length : Int)) = true := by simp; omega
          have hkI : (k : Int) < (L.length : Int) := by omega
          have hk0 : (0 : Int) ≤ (k : Int) := by omega
          have hr0 : (0 : Int) ≤ (r : Int) := by omega
          have hrI : (r : Int) < (wn : Int) := by omega
          clear hc hd hr cy hnl
          subst hA
          go_wp2_with fail
          refine wp_region_calm [0,1,2,3,4,5,6,7,8,9,10,11,12,13,14,15] [16] (by kernel_rfl) (by kernel_rfl) ?_
          iterate 16 ((refine calm_yes rfl rfl (fun w' hC => (by have cx := hC.cell cx; have cr := hC.cell cr; go_simp; rfl)) (fun K hK => ?_); go_simp; refine hK _ ?_; clear hK K))
          refine calm_nil (fun wa hCa => ?_)
          refine late_free (by kernel_rfl) rfl rfl (fun wb hxb K hK => ?_)
          have Eb := Ext.trans (ext_cls hCa) hxb
          replace X := Lib.hid (X.out.ext Eb)
          replace P := Lib.hid (own_ext P.out Eb)
          replace E := Lib.hid (Ext.trans E.out Eb)
          clear cx cr fr hCa hxb Eb
          have cr := X.out.cell_of (i := r) (intC_get ns (by have := Hnl.out; omega))
          have fr := X.out.frozen r
          go_simp
          refine hK _ _ ?_
          clear hK K cr fr
          refine late_nil (fun wc hxc => ?_)
          have X3 := (X.out.set_ r (.int .i64 (s + 1))).ext hxc
          rw [Hst.out, Hn.out] at X3
          have P3 := own_ext (P.out.kept (only_set (only_refl wb _) r (.int .i64 (s + 1))) (.inr fun hh => ne_block X.out P.out NE_NI hh.symm)) hxc
          have E3 := Ext.trans (E.out.setCell (p := ⟨w.heap.size, r, none⟩) (by exact Nat.le_refl _) (.int .i64 (s + 1))) hxc
          clear X P E hxc
          have X := Lib.hid X3
          have P := Lib.hid P3
          have E := Lib.hid E3
          clear X3 P3 E3
          go_wp2
          go_roundw
          case rel => exact ⟨k + 1, _, by omega, by go_num, rfl, X.out, P.out, E.out⟩
          case measure => simp [intOf]; omega
        · have hkd : decide ((k : Int) < (L.length : Int)) = false := by simp; omega
          have hk' : k = L.length := by omega
          have Hz : Hid (ns = S) := Lib.hid (by rw [Hns.out, hk', List.take_length, Hf.out])
          clear hk' hnl
          go_wp2
          go_ret
          refine ⟨some ⟨w.heap.size, 0, none⟩, wn, by rw [← Hz.out, Hnl.out]; rfl, ?_, E.out⟩
          rw [← Hz.out]
          have := own_of_row (n := ns.length) (sz := 1) X.out (Nat.le_refl _) (by rw [flat_len intC_len']) (by have := Hnl.out; omega)
          rw [Hnl.out] at this ⊢
          exact this
end Go.Proofs.Ytnmnomhoghkdjaa
