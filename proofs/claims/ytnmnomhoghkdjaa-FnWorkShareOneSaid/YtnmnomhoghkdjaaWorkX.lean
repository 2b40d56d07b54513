/-
  The program's order and shares of work: the walks.
-/
import Derived.Test.YtnmnomhoghkdjaaWorkW
namespace Go.Proofs.Ytnmnomhoghkdjaa
open Go Go.RowKit Reg
attribute [local go_sem] calmAt calmUpon
theorem c_eqDoneT (A A' : Option Addr) (cap cap' : Nat) (ps : List Pt) (w : World) (h : Pts w A ps) (h' : Pts w A' ps) (hl : ps.length ≤ 1000000) :
    Calls Try.prog 25 #[.slice A ps.length cap, .slice A' ps.length cap'] w fun e w' => e = .returned (.bool true) ∧ Below w.heap.size w w' := by
  have := c_eqDoneS A A' cap cap' ps ps w h h' (by omega) (by omega)
  rw [decide_eq_true (rfl : ps = ps)] at this
  exact this
theorem workR_bd (n W : Int) (ts : List Pt) : (workR n W ts).length ≤ 16 := by
  unfold workR
  split
  · rename_i h
    simp only [Bool.and_eq_true] at h
    have hn := inB_iff.1 h.1
    obtain ⟨hW, h30, hsc⟩ := wvB_sc h.2
    rw [workL_len (by omega) (by omega) (by omega) hsc h30]; omega
  · simp
theorem shareR_bd (n W : Int) (ts : List Pt) : (shareR n W ts).length ≤ 16 := by
  unfold shareR
  split
  · rename_i h
    simp only [Bool.and_eq_true] at h
    obtain ⟨hW, h30, hsc⟩ := wvB_sc h.2
    rw [shareL_len]; omega
  · simp
set_option maxHeartbeats 2000000 in
theorem c_iWorkOrder (n W : Int) (A : Option Addr) (cap : Nat) (sc : List Pt) (w : World) (h : Pts w A sc) (hl : sc.length ≤ 4611686018427387904) :
    Calls Try.prog 9 #[.int .i64 n, .int .i64 W, .slice A sc.length cap] w fun e w' => RetDn w (workR n W sc) e w' := by
  obtain ⟨S, hS⟩ : ∃ S, workR n W sc = S := ⟨_, rfl⟩
  rw [hS]
  obtain ⟨d, hd⟩ : ∃ d, (inB n 0 16 && wvB W sc) = d := ⟨_, rfl⟩
  have HS : Hid (S = if d = true then workL W.toNat n.toNat sc else []) := Lib.hid (by rw [← hS]; unfold workR; rw [hd])
  have H1 := Lib.hid hd
  have H := Lib.hid h
  have K2 := Lib.hid (c_workValid n W A cap sc w h hl)
  rw [hd] at K2
  have E := Lib.hid (Below.refl w.heap.size w)
  clear h hS hd
  go_enter Try.func9, Try.ntmps9
  go_wp2_with fail
  refine (K2.out).mono ?_
  rintro e w1 ⟨rfl, hb⟩
  replace E := Lib.hid (Ext.trans E.out hb)
  replace H := Lib.hid (H.out.ext ptR_stab hb)
  clear hb
  cases d
  · go_wp2
    go_ret
    exact RetDn.none (by rw [HS.out]; rfl) E.out
  · have hd := H1.out
    simp only [Bool.and_eq_true] at hd
    have hn := inB_iff.1 hd.1
    obtain ⟨hW, h30, hsc⟩ := wvB_sc hd.2
    clear hd
    obtain ⟨wn, rfl⟩ : ∃ wn : Nat, W = wn := ⟨W.toNat, by omega⟩
    obtain ⟨nn, rfl⟩ : ∃ nn : Nat, n = nn := ⟨n.toNat, by omega⟩
    have KR := Lib.hid (c_work nn wn A cap sc w1 H.out (by omega) (by omega) (by omega) h30 (by simpa using hsc))
    have Hf : Hid (workL wn nn sc = S) := Lib.hid (by rw [HS.out]; simp)
    rw [Hf.out] at KR
    clear hsc
    have hz := E.out.size
    go_wp2_with fail
    refine KR.out.mono ?_
    rintro e w2 ⟨A', cap', rfl, ho, hb⟩
    have O := Lib.hid (ho.rebase hz)
    replace E := Lib.hid (Ext.trans E.out hb)
    clear ho hb
    go_wp2
    go_ret
    exact ⟨A', cap', rfl, O.out, E.out⟩
set_option maxRecDepth 100000 in
set_option maxHeartbeats 4000000 in
theorem c_iWorkShare (n W : Int) (A : Option Addr) (cap : Nat) (sc : List Pt) (w : World) (h : Pts w A sc) (hl : sc.length ≤ 4611686018427387904) :
    Calls Try.prog 14 #[.int .i64 n, .int .i64 W, .slice A sc.length cap] w fun e w' => RetNs w (shareR n W sc) e w' := by
  obtain ⟨S, hS⟩ : ∃ S, shareR n W sc = S := ⟨_, rfl⟩
  rw [hS]
  obtain ⟨d, hd⟩ : ∃ d, (inB n 0 16 && wvB W sc) = d := ⟨_, rfl⟩
  have HS : Hid (S = if d = true then shareL W.toNat (workL W.toNat n.toNat sc) else []) := Lib.hid (by rw [← hS]; unfold shareR; rw [hd])
  have H1 := Lib.hid hd
  have H := Lib.hid h
  have K2 := Lib.hid (c_workValid n W A cap sc w h hl)
  rw [hd] at K2
  have E := Lib.hid (Below.refl w.heap.size w)
  clear h hS hd
  go_enter Try.func14, Try.ntmps14
  go_wp2_with fail
  refine (K2.out).mono ?_
  rintro e w1 ⟨rfl, hb⟩
  replace E := Lib.hid (Ext.trans E.out hb)
  replace H := Lib.hid (H.out.ext ptR_stab hb)
  clear hb
  cases d
  · go_wp2
    go_ret
    exact RetNs.none (by rw [HS.out]; rfl) E.out
  · have hd := H1.out
    simp only [Bool.and_eq_true] at hd
    have hn := inB_iff.1 hd.1
    obtain ⟨hW, h30, hsc⟩ := wvB_sc hd.2
    clear hd
    obtain ⟨wn, rfl⟩ : ∃ wn : Nat, W = wn := ⟨W.toNat, by omega⟩
    obtain ⟨nn, rfl⟩ : ∃ nn : Nat, n = nn := ⟨n.toNat, by omega⟩
    have hsc' : ScOk wn sc := by simpa using hsc
    have KR := Lib.hid (fun Wd hWd => c_work nn wn A cap sc Wd hWd (by omega) (by omega) (by omega) h30 hsc')
    have Hwk := Lib.hid (fun d hd => workL_workers (W := wn) (n := nn) (sc := sc) (by omega) hsc' d hd)
    have hln := workL_len (W := wn) (n := nn) (sc := sc) (by omega) (by omega) (by omega) hsc' h30
    have Hf : Hid (shareL wn (workL wn nn sc) = S) := Lib.hid (by rw [HS.out]; simp)
    generalize workL wn nn sc = L at *
    have hL16 : L.length ≤ 16 := by omega
    have hmk := make_ints wn (by omega)
    have hz1 : w.heap.size ≤ w1.heap.size := E.out.size
    clear hsc hsc' hln HS H1 K2 hl h30
    go_wp2_with fail
    go_wp2_with fail
    first | refine gen_calls ?_ | refine gen_code ?_ | refine gen_list ?_
    intro w2 hW
    obtain ⟨hb, hX⟩ := new1 hW
    clear hW
    replace E := Lib.hid (Ext.trans E.out hb)
    replace H := Lib.hid (H.out.ext ptR_stab hb)
    clear hb
    have X := Lib.hid hX
    have lX := X.out.lt
    clear hX
    clear hmk
    have hz2 : w.heap.size ≤ w2.heap.size := E.out.size
    go_wp2_with fail
    refine (KR.out _ H.out).mono ?_
    rintro e w3 ⟨A', cap', rfl, ho, hb⟩
    replace E := Lib.hid (Ext.trans E.out hb)
    replace H := Lib.hid (H.out.ext ptR_stab hb)
    replace X := Lib.hid (X.out.ext hb)
    have lX := X.out.lt
    clear hb
    have P := Lib.hid (ho.rebase hz2)
    clear ho
    rw [← shareL_nil] at X
    go_wp2_with fail
    go_loopw [9, 22] (fun _ i wr => ∃ (k : Nat) (ns : List Int), k ≤ L.length ∧ i = .int .i64 k ∧ ns = shareL wn (L.take k) ∧ Row wr w1.heap.size 3 (ns.flatMap intC) ∧ Has wr w.heap.size 31 2 (.slice A' L.length cap') L.length (L.flatMap ptC) ∧ Below w.heap.size w wr) (fun _ i _ => L.length - (intOf i).toNat)
    case atStart => exact ⟨0, _, Nat.zero_le _, rfl, by rw [List.take_zero], X.out, P.out, E.out⟩
    case round =>
      obtain ⟨k, ns, hk, rfl, hns, hx, hp, hbw⟩ := hrel
      clear X P E
      have X := Lib.hid hx
      have P := Lib.hid hp
      have E := Lib.hid hbw
      have hnl : ns.length = wn := by rw [hns, shareL_len]
      have Hnl := Lib.hid hnl
      have Hns := Lib.hid hns
      have lX := X.out.lt
      clear hx hp hbw hns
      by_cases hlt : k < L.length
      · obtain ⟨b, off, hA, hb, hc⟩ := (own_in (R := ptR) (enc := ptC) ptC_len (by decide) P.out (fun _ => rfl) : Pts wr A' L).pts (by omega)
        obtain ⟨cx, cy⟩ := hc k hlt
        have hd := Hwk.out L[k] (List.getElem_mem hlt)
        obtain ⟨r, hr⟩ : ∃ r : Nat, L[k].1 = (r : Int) := ⟨L[k].1.toNat, by omega⟩
        have hrW : r < wn := by omega
        have Hn : Hid (ns.set r (ns[r]'(by omega) + 1) = shareL wn (L.take (k + 1))) := Lib.hid (by
          rw [List.take_succ_eq_append_getElem hlt, shareL_snoc hr hrW]
          simp only [Hns.out])
        have hvb : 0 ≤ ns[r]'(by omega) ∧ ns[r]'(by omega) ≤ 16 := by
          have hm : ns[r]'(by omega) ∈ shareL wn (L.take k) := by rw [← Hns.out]; exact List.getElem_mem _
          have := shareL_bd _ hm
          rw [List.length_take] at this
          omega
        have cr := X.out.cell_of (i := r) (intC_get ns (by omega))
        have fr := X.out.frozen r
        have Hst := Lib.hid (fun x => intC_set ns (k := r) (by have := Hnl.out; omega) x)
        rw [hr] at cx
        generalize L[k].2 = y0 at *
        generalize ns[r]'(by omega) = s at *
        have hws : IntKind.i64.wrap (s + 1) = s + 1 := IntWalk.i64_in _ (by omega)
        have hkd : decide ((k : Int) < (L.length : Int)) = true := by simp; omega
        have hkI : (k : Int) < (L.length : Int) := by omega
        have hk0 : (0 : Int) ≤ (k : Int) := by omega
        have hr0 : (0 : Int) ≤ (r : Int) := by omega
        have hrI : (r : Int) < (wn : Int) := by omega
        have lX2 : w1.heap.size < wr.heap.size := lX
        have hne : w1.heap.size ≠ wr.heap.size := by omega
        have hne2 : wr.heap.size ≠ w1.heap.size := by omega
        clear hc hd hr hnl
        subst hA
        go_wp2_with fail
        go_roundw
        case rel => exact ⟨k + 1, _, by omega, by go_num, rfl, by
          have := (X.out.set_ r (.int .i64 (s + 1)))
          rw [Hst.out, Hn.out] at this
          exact this.alloc _, own_ext (P.out.kept (only_set (only_refl wr _) r (.int .i64 (s + 1))) (.inr fun hh => ne_block X.out P.out NE_NI hh.symm)) (ext_alloc _ _), Ext.trans (E.out.setCell (p := ⟨w1.heap.size, r, none⟩) (by exact hz1) (.int .i64 (s + 1))) (ext_alloc _ _)⟩
        case measure => simp [intOf]; omega
      · have hkd : decide ((k : Int) < (L.length : Int)) = false := by simp; omega
        have hk' : k = L.length := by omega
        have Hz : Hid (ns = S) := Lib.hid (by rw [Hns.out, hk', List.take_length, Hf.out])
        clear hk' hnl
        go_wp2
        go_ret
        refine ⟨some ⟨w1.heap.size, 0, none⟩, wn, by rw [← Hz.out, Hnl.out]; rfl, ?_, E.out⟩
        rw [← Hz.out]
        have := own_of_row (n := ns.length) (sz := 1) X.out hz1 (by rw [flat_len intC_len']) (by have := Hnl.out; omega)
        rw [Hnl.out] at this ⊢
        exact this
end Go.Proofs.Ytnmnomhoghkdjaa
