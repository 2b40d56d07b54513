/- One worker draws all tiles, and without a script the shares are fair, whatever the bytes that the numbers are drawn from. -/
import Derived.Test.YtnmnomhoghkdjaaWorkP
import Derived.Test.YtnmnomhoghkdjaaGenW
import Derived.Test.YtnmnomhoghkdjaaEqualI
import Derived.Test.YtnmnomhoghkdjaaOpen
namespace Go.Proofs.Ytnmnomhoghkdjaa.fnWorkShareOne
open Go Go.RowKit Go.ChangeShapes Go.WideShapes Go.ChangeAt Go.Deep Reg
attribute [local go_sem] calmAt calmUpon

theorem own : ownKnob Try.prog.godebug = none := by kernel_rfl
theorem laidOut : laidOutB Try.prog = true := by kernel_rfl

set_option maxRecDepth 100000 in
set_option maxHeartbeats 4000000 in
theorem walk (A : Option Addr) (cap : Nat) (bs : List Int) (w : World) (h : In byteR 1 w A bs) (hlc : bs.length ≤ cap) (hcm : cap ≤ maxLen) :
    Calls Try.prog 4 #[.slice A bs.length cap] w fun e w' => e = .returned (.bool true) ∧ Below w.heap.size w w' := by
  unfold maxLen at hcm
  by_cases hn : bs.length ≤ 1048576
  · have hnI : ¬ (1048576 : Int) < (bs.length : Int) := by omega
    have E := Lib.hid (Below.refl w.heap.size w)
    have K0 := Lib.hid (c_DrawWorkShare A cap bs w h hlc (by omega))
    clear h hn
    go_enter Try.func4, Try.ntmps4
    go_wp2_with fail
    refine (K0.out).mono ?_
    rintro e w1 ⟨n, W, A1, cap1, ts, rfl, htl, hnb, ho1, hb⟩
    replace E := Lib.hid (Ext.trans E.out hb)
    clear hb
    have P1 := Lib.hid (own_in (R := ptR) (enc := ptC) ptC_len (by decide) ho1 (fun _ => rfl))
    clear ho1 K0
    have hrl := shareR_bd n W ts
    have Hfa := Lib.hid (fun h => shareR_facts (n := n) (W := W) (ts := ts) h)
    obtain ⟨rs, hS⟩ : ∃ S, shareR n W ts = S := ⟨_, rfl⟩
    have HS := Lib.hid hS
    rw [hS] at hrl Hfa
    clear hS
    go_wp2_with fail
    refine (c_iWorkShare n W A1 cap1 ts _ P1.out (by omega)).mono ?_
    rw [HS.out]
    rintro e w2 ⟨A2, cap2, rfl, ho2, hb⟩
    replace E := Lib.hid (Ext.trans E.out hb)
    replace P1 := Lib.hid (P1.out.ext ptR_stab hb)
    clear hb
    have I2 := Lib.hid ((own_in (R := intR) (enc := intC) intC_len' (by decide) ho2 (fun _ => rfl)))
    clear ho2
    go_wp2_with fail
    refine (c_sWorkShare n W A1 cap1 ts _ P1.out (by omega)).mono ?_
    rw [HS.out]
    rintro e w3 ⟨A3, cap3, rfl, ho3, hb⟩
    replace E := Lib.hid (Ext.trans E.out hb)
    replace P1 := Lib.hid (P1.out.ext ptR_stab hb)
    replace I2 := Lib.hid (I2.out.ext intR_stab hb)
    clear hb
    have I3 := Lib.hid ((own_in (R := intR) (enc := intC) intC_len' (by decide) ho3 (fun _ => rfl)))
    clear ho3
    go_wp2_with fail
    refine (c_equalInts A2 A3 cap2 cap3 rs _ I2.out I3.out (by omega)).mono ?_
    rintro e w4 ⟨rfl, hb⟩
    replace E := Lib.hid (Ext.trans E.out hb)
    replace P1 := Lib.hid (P1.out.ext ptR_stab hb)
    replace I2 := Lib.hid (I2.out.ext intR_stab hb)
    replace I3 := Lib.hid (I3.out.ext intR_stab hb)
    clear hb
    by_cases h0 : rs.length = 0
    · have hb0 : (((rs.length : Nat) : Int) == 0) = true := by simp; exact List.eq_nil_of_length_eq_zero h0
      clear h0
      go_wp2_with fail
      refine (c_sWorkShare n W A1 cap1 ts _ P1.out (by omega)).mono ?_
      rw [HS.out]
      rintro e w5 ⟨A5, cap5, rfl, ho5, hb⟩
      replace E := Lib.hid (Ext.trans E.out hb)
      replace P1 := Lib.hid (P1.out.ext ptR_stab hb)
      replace I2 := Lib.hid (I2.out.ext intR_stab hb)
      replace I3 := Lib.hid (I3.out.ext intR_stab hb)
      clear hb
      have I5 := Lib.hid ((own_in (R := intR) (enc := intC) intC_len' (by decide) ho5 (fun _ => rfl)))
      clear ho5
      go_wp2_with fail
      refine (c_equalInts A2 A5 cap2 cap5 rs _ I2.out I5.out (by omega)).mono ?_
      rintro e w6 ⟨rfl, hb⟩
      replace E := Lib.hid (Ext.trans E.out hb)
      replace P1 := Lib.hid (P1.out.ext ptR_stab hb)
      replace I2 := Lib.hid (I2.out.ext intR_stab hb)
      replace I3 := Lib.hid (I3.out.ext intR_stab hb)
      replace I5 := Lib.hid (I5.out.ext intR_stab hb)
      clear hb
      go_wp2
      go_ret
      exact ⟨rfl, E.out⟩
    · have hb0 : (((rs.length : Nat) : Int) == 0) = false := by simp; intro hh; subst hh; simp at h0
      obtain ⟨hv, hsh, hsum, hlen⟩ := Hfa.out (by omega)
      have hnn := inB_iff.1 hv.1
      obtain ⟨hW, _, _⟩ := wvB_sc hv.2

      obtain ⟨wn, rfl⟩ : ∃ wn : Nat, W = wn := ⟨W.toNat, by omega⟩
      obtain ⟨nn, rfl⟩ : ∃ nn : Nat, n = nn := ⟨n.toNat, by omega⟩
      have hf1 : shareR nn wn [] = shareL wn (workL wn nn []) := by
        unfold shareR
        have e1 : wvB (wn : Int) [] = true := by unfold wvB; rw [inB_iff.2 hW]; rfl
        rw [hv.1, e1]; simp
      have hf2 : shareR nn 1 [] = [(nn : Int)] := by
        unfold shareR
        rw [hv.1]
        have := one_of (n := nn) (by omega)
        simpa [wvB, inB] using this
      have Hfair := Lib.hid (fair_of (n := nn) (W := wn) (by omega) (by omega) (by omega))
      have HF1 := Lib.hid hf1
      have HF2 := Lib.hid hf2
      have hfl : (shareL wn (workL wn nn [])).length = wn := shareL_len _ _
      have hfb : Hid (∀ x ∈ shareL wn (workL wn nn []), 0 ≤ x ∧ x ≤ 16) := Lib.hid (fun x hx => by
        have := shareL_bd x hx
        have h1 := workR_bd nn wn []
        have e1 : workR nn wn [] = workL wn nn [] := by
          unfold workR
          have e1 : wvB (wn : Int) [] = true := by unfold wvB; rw [inB_iff.2 hW]; rfl
          rw [hv.1, e1]; simp
        rw [e1] at h1
        omega)
      generalize shareL wn (workL wn nn []) = fs at *
      clear hv hsh hsum hlen Hfa HS h0 hf1 hf2 P1 I3
      have KF := Lib.hid (fun Wd => c_iWorkShare nn wn none 0 [] Wd In.of_nil (by simp))
      rw [HF1.out] at KF
      have KO := Lib.hid (fun Wd => c_iWorkShare nn 1 none 0 [] Wd In.of_nil (by simp))
      rw [HF2.out] at KO
      go_wp2_with fail
      refine (KF.out _).mono ?_
      rintro e w5 ⟨A5, cap5, rfl, ho5, hb⟩
      replace E := Lib.hid (Ext.trans E.out hb)
      clear hb
      have I5 := Lib.hid ((own_in (R := intR) (enc := intC) intC_len' (by decide) ho5 (fun _ => rfl)))
      clear ho5
      obtain ⟨b0, off0, hA0, _, hc0⟩ := I5.out.ints (by omega)
      have c0 := hc0 0 (by omega)
      have he0 : fs[0]'(by omega) = fs.headD 0 := by
        match fs, hfl with
        | [], h => simp at h; omega
        | x :: xs, _ => rfl
      rw [he0, Nat.add_zero] at c0
      have C0 := Lib.hid c0
      have h0b : 0 ≤ fs.headD 0 ∧ fs.headD 0 ≤ 16 := by rw [← he0]; exact hfb.out _ (List.getElem_mem _)
      obtain ⟨hd, hhd⟩ : ∃ hd, hd = fs.headD 0 := ⟨_, rfl⟩
      rw [← hhd] at C0 h0b Hfair
      have Hfl := Lib.hid hfl
      have hfp : 0 < fs.length := by omega
      have hfl4 : fs.length ≤ 4 := by omega
      clear c0 he0 hc0 hhd hfl
      subst hA0
      go_wp2_with fail
      go_loopw [8] (fun i wr => ∃ k : Nat, k ≤ fs.length ∧ i = .int .i64 k ∧ Ext w5 wr) (fun i _ => fs.length - (intOf i).toNat)
      case atStart => exact ⟨0, Nat.zero_le _, rfl, Below.refl _ _⟩
      case round =>
        obtain ⟨k, hk, rfl, hbw⟩ := hrel
        have X := Lib.hid hbw
        clear hbw
        by_cases hlt : k < fs.length
        · obtain ⟨b, off, hA, _, hc⟩ := (I5.out.ext intR_stab X.out).ints hfp
          injection hA with hA
          injection hA with e1 e2
          subst e1 e2
          have cv := hc k hlt
          obtain ⟨hf1, hf2⟩ := Hfair.out fs[k] (List.getElem_mem hlt)
          have hvb := hfb.out fs[k] (List.getElem_mem hlt)
          have c0 := Cls.cell X.out C0.out
          have hkI : (k : Int) < (fs.length : Int) := by omega
          have hkd : decide ((k : Int) < (fs.length : Int)) = true := decide_eq_true hkI
          have hk0 : (0 : Int) ≤ (k : Int) := by omega
          have h0I : (0 : Int) < (fs.length : Int) := by omega
          clear hc
          generalize fs[k] = x at *
          have g1 : ¬ hd < x := by omega
          have g2 : IntKind.i64.wrap (hd - x) = hd - x := IntWalk.i64_in _ (by omega)
          have g3 : ¬ 1 < hd - x := by omega
          have g4 : decide (hd < x) = false := decide_eq_false g1
          have g5 : decide (1 < hd - x) = false := decide_eq_false g3
          have Cv := Lib.hid cv
          have C1 := Lib.hid c0
          go_wp2_with fail
          refine wp_region_calm [0,1,2,3,4,5,6,7,8,9,10,11,12,13,14,15,16,17,18] [] (by kernel_rfl) (by kernel_rfl) ?_
          (first | (refine calm_yes rfl rfl (fun w' hC => (by have cv := hC.cell cv; have c0 := hC.cell c0; go_simp; rfl)) (fun K hK => ?_); go_simp; refine hK _ ?_; clear hK K) | (refine calm_no rfl rfl (fun K hK => ?_); go_simp; refine hK _ ?_; clear hK K))
          (first | (refine calm_yes rfl rfl (fun w' hC => (by have cv := hC.cell cv; have c0 := hC.cell c0; go_simp; rfl)) (fun K hK => ?_); go_simp; refine hK _ ?_; clear hK K) | (refine calm_no rfl rfl (fun K hK => ?_); go_simp; refine hK _ ?_; clear hK K))
          (first | (refine calm_yes rfl rfl (fun w' hC => (by have cv := hC.cell cv; have c0 := hC.cell c0; go_simp; rfl)) (fun K hK => ?_); go_simp; refine hK _ ?_; clear hK K) | (refine calm_no rfl rfl (fun K hK => ?_); go_simp; refine hK _ ?_; clear hK K))
          (first | (refine calm_yes rfl rfl (fun w' hC => (by have cv := hC.cell cv; have c0 := hC.cell c0; go_simp; rfl)) (fun K hK => ?_); go_simp; refine hK _ ?_; clear hK K) | (refine calm_no rfl rfl (fun K hK => ?_); go_simp; refine hK _ ?_; clear hK K))
          (first | (refine calm_yes rfl rfl (fun w' hC => (by have cv := hC.cell cv; have c0 := hC.cell c0; go_simp; rfl)) (fun K hK => ?_); go_simp; refine hK _ ?_; clear hK K) | (refine calm_no rfl rfl (fun K hK => ?_); go_simp; refine hK _ ?_; clear hK K))
          (first | (refine calm_yes rfl rfl (fun w' hC => (by have cv := hC.cell cv; have c0 := hC.cell c0; go_simp; rfl)) (fun K hK => ?_); go_simp; refine hK _ ?_; clear hK K) | (refine calm_no rfl rfl (fun K hK => ?_); go_simp; refine hK _ ?_; clear hK K))
          (first | (refine calm_yes rfl rfl (fun w' hC => (by have cv := hC.cell cv; have c0 := hC.cell c0; go_simp; rfl)) (fun K hK => ?_); go_simp; refine hK _ ?_; clear hK K) | (refine calm_no rfl rfl (fun K hK => ?_); go_simp; refine hK _ ?_; clear hK K))
          (first | (refine calm_yes rfl rfl (fun w' hC => (by have cv := hC.cell cv; have c0 := hC.cell c0; go_simp; rfl)) (fun K hK => ?_); go_simp; refine hK _ ?_; clear hK K) | (refine calm_no rfl rfl (fun K hK => ?_); go_simp; refine hK _ ?_; clear hK K))
          (first | (refine calm_yes rfl rfl (fun w' hC => (by have cv := hC.cell cv; have c0 := hC.cell c0; go_simp; rfl)) (fun K hK => ?_); go_simp; refine hK _ ?_; clear hK K) | (refine calm_no rfl rfl (fun K hK => ?_); go_simp; refine hK _ ?_; clear hK K))
          (first | (refine calm_yes rfl rfl (fun w' hC => (by have cv := hC.cell cv; have c0 := hC.cell c0; go_simp; rfl)) (fun K hK => ?_); go_simp; refine hK _ ?_; clear hK K) | (refine calm_no rfl rfl (fun K hK => ?_); go_simp; refine hK _ ?_; clear hK K))
          (first | (refine calm_yes rfl rfl (fun w' hC => (by have cv := hC.cell cv; have c0 := hC.cell c0; go_simp; rfl)) (fun K hK => ?_); go_simp; refine hK _ ?_; clear hK K) | (refine calm_no rfl rfl (fun K hK => ?_); go_simp; refine hK _ ?_; clear hK K))
          (first | (refine calm_yes rfl rfl (fun w' hC => (by have cv := hC.cell cv; have c0 := hC.cell c0; go_simp; rfl)) (fun K hK => ?_); go_simp; refine hK _ ?_; clear hK K) | (refine calm_no rfl rfl (fun K hK => ?_); go_simp; refine hK _ ?_; clear hK K))
          (first | (refine calm_yes rfl rfl (fun w' hC => (by have cv := hC.cell cv; have c0 := hC.cell c0; go_simp; rfl)) (fun K hK => ?_); go_simp; refine hK _ ?_; clear hK K) | (refine calm_no rfl rfl (fun K hK => ?_); go_simp; refine hK _ ?_; clear hK K))
          (first | (refine calm_yes rfl rfl (fun w' hC => (by have cv := hC.cell cv; have c0 := hC.cell c0; go_simp; rfl)) (fun K hK => ?_); go_simp; refine hK _ ?_; clear hK K) | (refine calm_no rfl rfl (fun K hK => ?_); go_simp; refine hK _ ?_; clear hK K))
          (first | (refine calm_yes rfl rfl (fun w' hC => (by have cv := hC.cell cv; have c0 := hC.cell c0; go_simp; rfl)) (fun K hK => ?_); go_simp; refine hK _ ?_; clear hK K) | (refine calm_no rfl rfl (fun K hK => ?_); go_simp; refine hK _ ?_; clear hK K))
          (first | (refine calm_yes rfl rfl (fun w' hC => (by have cv := hC.cell cv; have c0 := hC.cell c0; go_simp; rfl)) (fun K hK => ?_); go_simp; refine hK _ ?_; clear hK K) | (refine calm_no rfl rfl (fun K hK => ?_); go_simp; refine hK _ ?_; clear hK K))
          (first | (refine calm_yes rfl rfl (fun w' hC => (by have cv := hC.cell cv; have c0 := hC.cell c0; go_simp; rfl)) (fun K hK => ?_); go_simp; refine hK _ ?_; clear hK K) | (refine calm_no rfl rfl (fun K hK => ?_); go_simp; refine hK _ ?_; clear hK K))
          (first | (refine calm_yes rfl rfl (fun w' hC => (by have cv := hC.cell cv; have c0 := hC.cell c0; go_simp; rfl)) (fun K hK => ?_); go_simp; refine hK _ ?_; clear hK K) | (refine calm_no rfl rfl (fun K hK => ?_); go_simp; refine hK _ ?_; clear hK K))
          (first | (refine calm_yes rfl rfl (fun w' hC => (by have cv := hC.cell cv; have c0 := hC.cell c0; go_simp; rfl)) (fun K hK => ?_); go_simp; refine hK _ ?_; clear hK K) | (refine calm_no rfl rfl (fun K hK => ?_); go_simp; refine hK _ ?_; clear hK K))
          refine calm_done (fun w6 hb => ?_)
          clear cv c0
          replace X := Lib.hid (Ext.trans X.out hb)
          replace Cv := Lib.hid (Cls.cell hb Cv.out)
          replace C1 := Lib.hid (Cls.cell hb C1.out)
          clear hb
          have cCv := Cv.out
          have cC1 := C1.out
          go_wp2
          go_roundw
          case rel => exact ⟨k + 1, by omega, by go_num, X.out⟩
          case measure => simp [intOf]; omega
        · have hkd : decide ((k : Int) < (fs.length : Int)) = false := decide_eq_false (by omega)
          replace E := Lib.hid (Ext.trans E.out X.out)
          go_wp2_with fail
          refine (KO.out _).mono ?_
          rintro e w6 ⟨A6, cap6, rfl, ho6, hb⟩
          replace E := Lib.hid (Ext.trans E.out hb)
          clear hb
          have I6 := Lib.hid ((own_in (R := intR) (enc := intC) intC_len' (by decide) ho6 (fun _ => rfl)))
          clear ho6
          go_wp2_with fail
          first | refine gen_calls ?_ | refine gen_code ?_ | refine gen_list ?_
          intro w7 hW
          obtain ⟨hb, hY⟩ := new1 hW
          clear hW
          replace E := Lib.hid (Ext.trans E.out hb)
          replace I6 := Lib.hid (I6.out.ext intR_stab hb)
          clear hb
          have Y := Lib.hid hY
          have lY := Y.out.lt
          clear hY
          have IY : Hid (Ints w7 (some ⟨w6.heap.size, 0, none⟩) [(nn : Int)]) := Lib.hid (Row.in_ (rest := []) (enc := intC) intC_len' (by simpa [intC] using Y.out) (fun _ _ => rfl))
          go_wp2_with fail
          refine (c_equalInts A6 _ cap6 1 [(nn : Int)] _ I6.out IY.out (by simp)).mono ?_
          rintro e w8 ⟨rfl, hb⟩
          replace E := Lib.hid (Ext.trans E.out hb)
          replace I6 := Lib.hid (I6.out.ext intR_stab hb)
          replace Y := Lib.hid (Y.out.ext hb)
          have lY := Y.out.lt
          clear hb
          go_wp2
          go_ret
          exact ⟨rfl, E.out⟩
  · have hnI : (1048576 : Int) < (bs.length : Int) := by omega
    clear h
    go_enter Try.func4, Try.ntmps4
    go_wp2
    go_ret
    exact ⟨rfl, Below.refl _ _⟩

theorem opens0 : Opens Try.prog 22 (slR byteR 1 ) :=  opens_slice Try.underlying22 (by kernel_rfl) (by decide) (opens_byte Try.underlying5)
set_option maxRecDepth 100000 in
theorem lifted (os : Os) (started : os.Started) (H : Type) (enc : TypeId × Value → H) :
    ReturnsInHanded {} Try.checked os 4 .any (Rows.fnWorkShareOneSpec.pre6 enc Try.prog Try.f4 Rows.fnWorkShareOneRow.domain false) (Rows.fnWorkShareOneSpec.post enc Try.prog Try.f4 false true false false) := by
  refine returnsInHanded_of_change (C := Try.checked) own started (by kernel_rfl) Try.func4
    (ChangeSpec.witness6 (enc := enc) (C := Try.checked) false ⟨#[], #[.slice none 0 0], []⟩ 8 (by kernel_rfl) (by kernel_rfl) (by kernel_rfl) (by kernel_rfl)) ?_
  intro W base args ds gs before hval0 hW hcnd _
  have hval : ∀ (j : Nat) t v, Try.f4.params[j]? = some t → args[j]? = some v → Value.okWide Try.prog W .any base t v := hval0
  have hW' := hW
  obtain ⟨p, q, hA0, hV, rfl, hfz, hnd⟩ := hW
  have hA : DataW.TrodAll enc Try.prog W 0 (fun _ => true) true Try.f4.params.toList args.toList ds p := hA0
  rw [Try.params4] at hA hval
  obtain ⟨v0, vs0, d0, ds0, p0, q0, hargs, rfl, rfl, h0, r0⟩ := trodAll_cons hA
  obtain ⟨rfl, rfl, rfl⟩ := trodAll_nil r0
  obtain rfl : args = #[v0] := by cases args; simp_all
  obtain ⟨rfl, rfl, rfl⟩ := trodVars_none hV
  obtain ⟨a0, len0, cap0, rfl⟩ := okWide_slice Try.underlying22 (hval 0 22 v0 rfl rfl)
  have k0 := h0
  have lt0 : ∀ x ∈ p0, x.block < W.heap.size := by obtain ⟨m, hm⟩ := k0; exact DataW.trod_lt m _ _ _ hm
  obtain ⟨xs0, rfl, w0, wl0, wc0⟩ := open_arg rfl opens0 h0
  clear hA0 hval0
  refine (walk a0 cap0 xs0 W w0 wl0 wc0).mono fun e W' ⟨he, bel⟩ => ?_
  subst he
  exact ⟨_, rfl, _, _, _, [], _, [], hW', trodAll_mk1 (shut_bool Try.underlying4 _), (trodAll_cons_mk (Below.trod laidOut (by kernel_rfl) (of_decide_eq_true (by kernel_rfl)) k0 bel lt0) trodAll_mk0), rfl, bel.frame _, fun h => by cases h⟩
theorem over : Rows.fnWorkShareOneRow.holds Try.pinned (OpenSpec.ofChange Rows.fnWorkShareOneSpec) :=
  OpenClaim.holds_of_wide 4 Try.f4 rfl rfl rfl rfl rfl rfl rfl ⟨rfl, rfl, rfl, rfl, rfl⟩ rfl rfl rfl rfl rfl (by kernel_rfl) Try.func4 (by kernel_rfl)
    (of_decide_eq_true (by kernel_rfl)) (by unfold Func.isWrapper; first | (rw [if_pos (by decide +kernel)]; kernel_rfl) | (rw [if_neg (by decide +kernel)]; exact ⟨rfl, rfl⟩))
    (fun os started H enc _ => lifted os started H enc)

theorem proved : Rows.FnWorkShareOneSaid := over

end Go.Proofs.Ytnmnomhoghkdjaa.fnWorkShareOne

