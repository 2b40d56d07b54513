/- Every tile is drawn once, by a worker that there is, whatever the bytes that the numbers and the turns are drawn from. -/
import Derived.Test.YtnmnomhoghkdjaaWorkP
import Derived.Test.YtnmnomhoghkdjaaGenW
import Derived.Test.YtnmnomhoghkdjaaOpen
namespace Go.Proofs.Ytnmnomhoghkdjaa.fnWorkOrder
open Go Go.RowKit Go.ChangeShapes Go.WideShapes Go.ChangeAt Go.Deep Reg
attribute [local go_sem] calmAt calmUpon

theorem own : ownKnob Try.prog.godebug = none := by kernel_rfl
theorem laidOut : laidOutB Try.prog = true := by kernel_rfl
theorem c_equalDoneT (A A' : Option Addr) (cap cap' : Nat) (ps : List Pt) (w : World) (h : Pts w A ps) (h' : Pts w A' ps) (hl : ps.length ≤ 1000000) :
    Calls Try.prog 10 #[.slice A ps.length cap, .slice A' ps.length cap'] w fun e w' => e = .returned (.bool true) ∧ Below w.heap.size w w' := by
  have := c_equalDones A A' cap cap' ps ps w h h' (by omega) (by omega)
  rw [decide_eq_true (rfl : ps = ps)] at this
  exact this

set_option maxRecDepth 100000 in
set_option maxHeartbeats 4000000 in
theorem walk (A : Option Addr) (cap : Nat) (bs : List Int) (w : World) (h : In byteR 1 w A bs) (hlc : bs.length ≤ cap) (hcm : cap ≤ maxLen) :
    Calls Try.prog 3 #[.slice A bs.length cap] w fun e w' => e = .returned (.bool true) ∧ Below w.heap.size w w' := by
  unfold maxLen at hcm
  by_cases hn : bs.length ≤ 1048576
  · have hnI : ¬ (1048576 : Int) < (bs.length : Int) := by omega
    have E := Lib.hid (Below.refl w.heap.size w)
    have K0 := Lib.hid (c_DrawWorkOrder A cap bs w h hlc (by omega))
    clear h hn
    go_enter Try.func3, Try.ntmps3
    go_wp2_with fail
    refine (K0.out).mono ?_
    rintro e w1 ⟨n, W, A1, cap1, ts, rfl, htl, hnb, ho1, hb⟩
    replace E := Lib.hid (Ext.trans E.out hb)
    clear hb
    have P1 := Lib.hid (own_in (R := ptR) (enc := ptC) ptC_len (by decide) ho1 (fun _ => rfl))
    clear ho1 K0
    have hrl := workR_bd n W ts
    have Hfa := Lib.hid (fun h => workR_facts (n := n) (W := W) (ts := ts) h)
    obtain ⟨rs, hS⟩ : ∃ S, workR n W ts = S := ⟨_, rfl⟩
    have HS := Lib.hid hS
    rw [hS] at hrl Hfa
    clear hS
    go_wp2_with fail
    refine (c_iWorkOrder n W A1 cap1 ts _ P1.out (by omega)).mono ?_
    rw [HS.out]
    rintro e w2 ⟨A2, cap2, rfl, ho2, hb⟩
    replace E := Lib.hid (Ext.trans E.out hb)
    replace P1 := Lib.hid (P1.out.ext ptR_stab hb)
    clear hb
    have O2 := Lib.hid (ho2)
    clear ho2
    have P2 := Lib.hid (own_in (R := ptR) (enc := ptC) ptC_len (by decide) O2.out (fun _ => rfl))
    go_wp2_with fail
    refine (c_sWorkOrder n W A1 cap1 ts _ P1.out (by omega)).mono ?_
    rw [HS.out]
    rintro e w3 ⟨A3, cap3, rfl, ho3, hb⟩
    replace E := Lib.hid (Ext.trans E.out hb)
    replace P1 := Lib.hid (P1.out.ext ptR_stab hb)
    replace O2 := Lib.hid (own_ext O2.out hb)
    replace P2 := Lib.hid (P2.out.ext ptR_stab hb)
    clear hb
    have P3 := Lib.hid ((own_in (R := ptR) (enc := ptC) ptC_len (by decide) ho3 (fun _ => rfl)))
    clear ho3
    go_wp2_with fail
    refine (c_equalDoneT A2 A3 cap2 cap3 rs _ P2.out P3.out (by omega)).mono ?_
    rintro e w4 ⟨rfl, hb⟩
    replace E := Lib.hid (Ext.trans E.out hb)
    replace P1 := Lib.hid (P1.out.ext ptR_stab hb)
    replace O2 := Lib.hid (own_ext O2.out hb)
    replace P2 := Lib.hid (P2.out.ext ptR_stab hb)
    replace P3 := Lib.hid (P3.out.ext ptR_stab hb)
    clear hb
    have hz4 : w.heap.size ≤ w4.heap.size := E.out.size
    by_cases h0 : rs.length = 0
    · have hb0 : (((rs.length : Nat) : Int) == 0) = true := by simp; exact List.eq_nil_of_length_eq_zero h0
      clear h0
      go_wp2_with fail
      refine (c_sWorkOrder n W A1 cap1 ts _ P1.out (by omega)).mono ?_
      rw [HS.out]
      rintro e w5 ⟨A5, cap5, rfl, ho5, hb⟩
      replace E := Lib.hid (Ext.trans E.out hb)
      replace P1 := Lib.hid (P1.out.ext ptR_stab hb)
      replace O2 := Lib.hid (own_ext O2.out hb)
      replace P2 := Lib.hid (P2.out.ext ptR_stab hb)
      replace P3 := Lib.hid (P3.out.ext ptR_stab hb)
      clear hb
      have P5 := Lib.hid ((own_in (R := ptR) (enc := ptC) ptC_len (by decide) ho5 (fun _ => rfl)))
      clear ho5
      go_wp2_with fail
      refine (c_equalDoneT A2 A5 cap2 cap5 rs _ P2.out P5.out (by omega)).mono ?_
      rintro e w6 ⟨rfl, hb⟩
      replace E := Lib.hid (Ext.trans E.out hb)
      replace P1 := Lib.hid (P1.out.ext ptR_stab hb)
      replace O2 := Lib.hid (own_ext O2.out hb)
      replace P2 := Lib.hid (P2.out.ext ptR_stab hb)
      replace P3 := Lib.hid (P3.out.ext ptR_stab hb)
      replace P5 := Lib.hid (P5.out.ext ptR_stab hb)
      clear hb
      go_wp2
      go_ret
      exact ⟨rfl, E.out⟩
    · have hb0 : (((rs.length : Nat) : Int) == 0) = false := by simp; intro hh; subst hh; simp at h0
      obtain ⟨_, hall, hnd, hcn⟩ := Hfa.out (by omega)
      have Hall := Lib.hid hall
      have Hnd := Lib.hid hnd
      have Hcn := Lib.hid hcn
      clear hall hnd hcn Hfa HS P1 P3 h0 P2
      go_wp2_with fail
      first | refine gen_calls ?_ | refine gen_code ?_ | refine gen_list ?_
      intro w5 hW
      obtain ⟨hb, hX⟩ := new1 hW
      clear hW
      replace E := Lib.hid (Ext.trans E.out hb)
      replace O2 := Lib.hid (own_ext O2.out hb)
      clear hb
      have X := Lib.hid hX
      have lX := X.out.lt
      clear hX
      have O := Lib.hid (own_of_row (n := 0) (B := w4.heap.size) (sz := 1) X.out (Nat.le_refl _) rfl (by decide))
      clear X lX
      go_wp2_with fail
      go_loopw [7, 8] (fun s i wr => ∃ (k : Nat) (A5 : Option Addr) (cap5 : Nat) (xs : List Int), k ≤ rs.length ∧ i = .int .i64 k ∧ s = .slice A5 xs.length cap5 ∧ xs = (rs.take k).map (·.2) ∧ Has wr w4.heap.size 3 1 (.slice A5 xs.length cap5) xs.length (xs.flatMap intC) ∧ Has wr w1.heap.size 31 2 (.slice A2 rs.length cap2) rs.length (rs.flatMap ptC) ∧ Below w.heap.size w wr ∧ w4.heap.size ≤ wr.heap.size) (fun _ i _ => rs.length - (intOf i).toNat)
      case atStart => exact ⟨0, _, 0, [], Nat.zero_le _, rfl, rfl, by simp, O.out, O2.out, E.out, by have := O.out.lt w4.heap.size rfl; omega⟩
      case round =>
        obtain ⟨k, A5, cap5, xs, hk, rfl, rfl, hxs, ho, ho2, hbw, hzr⟩ := hrel
        clear O O2 E
        have O := Lib.hid ho
        have O2 := Lib.hid ho2
        have E := Lib.hid hbw
        have hxl : xs.length ≤ 16 := by rw [hxs]; simp; omega
        have Hxs := Lib.hid hxs
        clear ho ho2 hbw hxs
        by_cases hlt : k < rs.length
        · obtain ⟨b, off, hA, hb, hc⟩ := (own_in (R := ptR) (enc := ptC) ptC_len (by decide) O2.out (fun _ => rfl) : Pts wr A2 rs).pts (by omega)
          obtain ⟨cx, cy⟩ := hc k hlt
          obtain ⟨⟨q1, q2⟩, q3, q4⟩ := Hall.out rs[k] (List.getElem_mem hlt)
          have hfr := fresh_of Hnd.out hlt
          rw [← Hxs.out] at hfr
          have KI := Lib.hid (fun Wd hW => c_isIn A5 cap5 xs rs[k].2 Wd hW (by omega) hfr)
          have Hn : Hid (xs ++ [rs[k].2] = (rs.take (k + 1)).map (·.2)) := Lib.hid (by rw [List.take_succ_eq_append_getElem hlt, List.map_append, ← Hxs.out]; rfl)
          have hkI : (k : Int) < (rs.length : Int) := by omega
          have hkd : decide ((k : Int) < (rs.length : Int)) = true := decide_eq_true hkI
          clear hc hfr
          generalize rs[k] = d at *
          obtain ⟨x, y⟩ := d
          dsimp only at cx cy q1 q2 q3 q4 KI Hn
          have r1 : ¬ y < 0 := by omega
          have r2 : ¬ n ≤ y := by omega
          have r3 : ¬ x < 0 := by omega
          have r4 : ¬ W ≤ x := by omega
          have Cx := Lib.hid cx
          have Cy := Lib.hid cy
          subst hA
          go_wp2_with fail
          refine (KI.out _ (own_in (R := intR) (enc := intC) intC_len' (by decide) O.out (fun _ => rfl))).mono ?_
          rintro e w' ⟨rfl, rfl⟩
          go_wp2_with (at_builtin; refine wpList_app (base := w4.heap.size) ei_int rfl (.tmp 88) (.tmp 94) rfl rfl (own_ext O.out (ext_alloc _ _)) rfl (src_new _ _ [_] (m := 1) rfl (by intro u hu; simp only [List.mem_cons, List.not_mem_nil, or_false] at hu; subst hu; rfl)) (by omega) (by simp; omega) ?_; intro ve w6 hown hg hat; refine stop_in ?_)
          refine stop_out ?_
          obtain ⟨A6, cap6, hve⟩ := own_form hown
          have hz6 : w4.heap.size ≤ w6.heap.size := Nat.le_trans hzr (by have := hg.size; simp at this; omega)
          clear cx cy
          replace E := Lib.hid (Below.grown (Ext.trans E.out (ext_alloc _ _)) hg (by simp; omega) (fun k hk => by have := (O.out.lt k hk).1; omega))
          replace O2 := Lib.hid ((own_ext O2.out (ext_alloc _ _)).grownNe (own_ext O.out (ext_alloc _ _)) (by decide) hg)
          have heq : xs ++ [y] = (xs ++ [y]) := rfl
          replace O : Hid (Has w6 w4.heap.size 3 1 (.slice A6 ((xs ++ [y])).length cap6) ((xs ++ [y])).length (((xs ++ [y])).flatMap intC)) := Lib.hid (by
            have q := hown
            rw [hve] at q
            rw [← heq, List.flatMap_append, List.length_append]
            exact q)
          have hvf : ve = .slice A6 ((xs ++ [y])).length cap6 := by rw [hve, ← heq, List.length_append]; rfl
          clear hve
          clear hown hg hat heq
          subst hvf
          go_wp2
          go_roundw
          case rel => exact ⟨k + 1, A6, cap6, _, by omega, by go_num, rfl, Hn.out, O.out, O2.out, E.out, hz6⟩
          case measure => simp [intOf]; omega
        · have hkd : decide ((k : Int) < (rs.length : Int)) = false := decide_eq_false (by omega)
          have hcd : (((rs.length : Nat) : Int) == n) = true := by have := Hcn.out; simp; exact this
          go_wp2
          go_ret
          exact ⟨rfl, E.out⟩
  · have hnI : (1048576 : Int) < (bs.length : Int) := by omega
    clear h
    go_enter Try.func3, Try.ntmps3
    go_wp2
    go_ret
    exact ⟨rfl, Below.refl _ _⟩

theorem opens0 : Opens Try.prog 22 (slR byteR 1 ) :=  opens_slice Try.underlying22 (by kernel_rfl) (by decide) (opens_byte Try.underlying5)
set_option maxRecDepth 100000 in
theorem lifted (os : Os) (started : os.Started) (H : Type) (enc : TypeId × Value → H) :
    ReturnsInHanded {} Try.checked os 3 .any (Rows.fnWorkOrderSpec.pre6 enc Try.prog Try.f3 Rows.fnWorkOrderRow.domain false) (Rows.fnWorkOrderSpec.post enc Try.prog Try.f3 false true false false) := by
  refine returnsInHanded_of_change (C := Try.checked) own started (by kernel_rfl) Try.func3
    (ChangeSpec.witness6 (enc := enc) (C := Try.checked) false ⟨#[], #[.slice none 0 0], []⟩ 8 (by kernel_rfl) (by kernel_rfl) (by kernel_rfl) (by kernel_rfl)) ?_
  intro W base args ds gs before hval0 hW hcnd _
  have hval : ∀ (j : Nat) t v, Try.f3.params[j]? = some t → args[j]? = some v → Value.okWide Try.prog W .any base t v := hval0
  have hW' := hW
  obtain ⟨p, q, hA0, hV, rfl, hfz, hnd⟩ := hW
  have hA : DataW.TrodAll enc Try.prog W 0 (fun _ => true) true Try.f3.params.toList args.toList ds p := hA0
  rw [Try.params3] at hA hval
  obtain ⟨v0, vs0, d0, ds0, p0, q0, hargs, rfl, rfl, h0, r0⟩ := trodAll_cons hA
  obtain ⟨rfl, rfl, rfl⟩ := trodAll_nil r0
  obtain rfl : args = #[v0] := by cases args; simp_all
  obtain ⟨rfl, rfl, rfl⟩ := trodVars_none hV
  obtain ⟨a0, len0, cap0, rfl⟩ := okWide_slice Try.underlying22 (hval 0 22 v0 rfl rfl)
  have k0 := h0
  have lt0 : ∀ x ∈ p0, x.block < W.heap.size := by obtain ⟨m, hm⟩ := k0; exact DataW.trod_lt m _ _ _ hm
  obtain ⟨xs0, rfl, w0, wl0, wc0⟩ := open_arg rfl opens0 h0
  clear hA0 hval0
  refine (walk a0 cap0 xs0 W w0 wl0 wc0).mono fun e W' ⟨he, bel⟩ => ?_
  subst he
  exact ⟨_, rfl, _, _, _, [], _, [], hW', trodAll_mk1 (shut_bool Try.underlying4 _), (trodAll_cons_mk (Below.trod laidOut (by kernel_rfl) (of_decide_eq_true (by kernel_rfl)) k0 bel lt0) trodAll_mk0), rfl, bel.frame _, fun h => by cases h⟩
theorem over : Rows.fnWorkOrderRow.holds Try.pinned (OpenSpec.ofChange Rows.fnWorkOrderSpec) :=
  OpenClaim.holds_of_wide 3 Try.f3 rfl rfl rfl rfl rfl rfl rfl ⟨rfl, rfl, rfl, rfl, rfl⟩ rfl rfl rfl rfl rfl (by kernel_rfl) Try.func3 (by kernel_rfl)
    (of_decide_eq_true (by kernel_rfl)) (by unfold Func.isWrapper; first | (rw [if_pos (by decide +kernel)]; kernel_rfl) | (rw [if_neg (by decide +kernel)]; exact ⟨rfl, rfl⟩))
    (fun os started H enc _ => lifted os started H enc)

theorem proved : Rows.FnWorkOrderSaid := over

end Go.Proofs.Ytnmnomhoghkdjaa.fnWorkOrder

