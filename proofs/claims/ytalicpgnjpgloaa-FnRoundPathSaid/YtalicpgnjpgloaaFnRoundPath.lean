/- Rounds have known boxes, and areas between those of the rhomb and of the box, whatever the bytes that they are drawn from. -/
import Derived.Test.YtalicpgnjpgloaaGenD
import Derived.Test.YtalicpgnjpgloaaRoundL
import Derived.Test.YtalicpgnjpgloaaRoundI
import Derived.Test.YtalicpgnjpgloaaEqualR
import Derived.Test.YtalicpgnjpgloaaMg3
namespace Go.Proofs.Ytalicpgnjpgloaa.fnRoundPath
open Go Go.RowKit Go.ChangeShapes Go.WideShapes Go.ChangeAt Go.Deep Reg
attribute [local go_sem] calmAt calmUpon

theorem own : ownKnob Try.prog.godebug = none := by kernel_rfl
theorem laidOut : laidOutB Try.prog = true := by kernel_rfl

set_option maxRecDepth 100000 in
set_option maxHeartbeats 8000000 in
theorem walk (A : Option Addr) (cap : Nat) (bs : List Int) (w : World) (h : In byteR 1 w A bs) (hlc : bs.length ≤ cap) (hcm : cap ≤ maxLen) :
    Calls Try.prog 4 #[.slice A bs.length cap] w fun e w' => e = .returned (.bool true) ∧ Below w.heap.size w w' := by
  unfold maxLen at hcm
  by_cases hn : bs.length ≤ 1048576
  · have hnI : ¬ (1048576 : Int) < (bs.length : Int) := by omega
    have E := Lib.hid (Below.refl w.heap.size w)
    go_enter Try.func4, Try.ntmps4
    go_wp2_with fail
    refine (c_DrawRoundPath A cap bs w h hlc (by omega)).mono ?_
    rintro e w1 ⟨p, r, rfl, hp, ⟨hr, hrin⟩, hb⟩
    replace E := Lib.hid (Ext.trans E.out hb)
    clear hb
    have HR := Lib.hid hrin
    clear h hn hp hrin
    go_wp2_with fail
    first | refine gen_calls ?_ | refine gen_code ?_ | refine gen_list ?_
    intro w2 hW
    obtain ⟨hb, hR3⟩ := new1 hW
    clear hW
    replace E := Lib.hid (Ext.trans E.out hb)
    clear hb
    have R3 := Lib.hid hR3
    have lR3 := R3.out.lt
    clear hR3
    have c0 := R3.out.cell_of (i := 0) rfl
    have c1 := R3.out.cell_of (i := 1) rfl
    obtain ⟨d, hd⟩ : ∃ d, rhOk p r = d := ⟨_, rfl⟩
    cases d
    · have Hm : Hid (roundP p r = ([], false)) := Lib.hid (by unfold roundP; rw [hd]; rfl)
      clear hd
      go_wp2_with fail
      clear c0 c1
      refine (c_iRoundPath p r _).mono ?_
      rw [Hm.out]
      rintro e w3 ⟨A3, cap3, ss3, rfl, ho3, hb⟩
      replace E := Lib.hid (Ext.trans E.out hb)
      replace R3 := Lib.hid (R3.out.ext hb)
      have lR3 := R3.out.lt
      clear hb
      have Q := Lib.hid (ho3.in_)
      have c0 := R3.out.cell_of (i := 0) rfl
      have c1 := R3.out.cell_of (i := 1) rfl
      clear ho3
      go_wp2_with fail
      clear c0 c1
      refine (c_sRoundPath p r _).mono ?_
      rw [Hm.out]
      rintro e w4 ⟨A4, cap4, ss4, rfl, ho4, hb⟩
      replace E := Lib.hid (Ext.trans E.out hb)
      replace R3 := Lib.hid (R3.out.ext hb)
      have lR3 := R3.out.lt
      replace Q := Lib.hid (Q.out.ext verbR_stab hb)
      clear hb
      have W0 := Lib.hid (ho4.in_)
      have c0 := R3.out.cell_of (i := 0) rfl
      have c1 := R3.out.cell_of (i := 1) rfl
      clear ho4
      go_wp2_with fail
      clear c0 c1
      refine (c_equalPath _ _ _ _ [] _ Q.out W0.out (by simp) (fun v hv => by simp at hv)).mono ?_
      rintro e w5 ⟨rfl, hb⟩
      replace E := Lib.hid (Ext.trans E.out hb)
      replace R3 := Lib.hid (R3.out.ext hb)
      have lR3 := R3.out.lt
      replace Q := Lib.hid (Q.out.ext verbR_stab hb)
      replace W0 := Lib.hid (W0.out.ext verbR_stab hb)
      clear hb
      have c0 := R3.out.cell_of (i := 0) rfl
      have c1 := R3.out.cell_of (i := 1) rfl
      go_wp2_with fail
      clear c0 c1
      refine (c_equalPath _ _ _ _ [] _ Q.out W0.out (by simp) (fun v hv => by simp at hv)).mono ?_
      rintro e w6 ⟨rfl, hb⟩
      replace E := Lib.hid (Ext.trans E.out hb)
      replace R3 := Lib.hid (R3.out.ext hb)
      have lR3 := R3.out.lt
      replace Q := Lib.hid (Q.out.ext verbR_stab hb)
      replace W0 := Lib.hid (W0.out.ext verbR_stab hb)
      clear hb
      have c0 := R3.out.cell_of (i := 0) rfl
      have c1 := R3.out.cell_of (i := 1) rfl
      go_wp2
      go_ret
      exact ⟨rfl, E.out⟩
    · have Hm : Hid (roundP p r = (rdV p r, true)) := Lib.hid (by unfold roundP; rw [hd]; rfl)
      obtain ⟨ps, hV, hok, hpl, hb1, hb2, ha1, ha2⟩ := rd_facts hd HR.out
      have Sm6 : Hid (∀ v ∈ rdV p r, v.2.length ≤ 1048576) := Lib.hid (fun v hv => by have := rdV_small p r v hv; omega)
      have Sm9 : Hid (∀ v ∈ rdV p r, v.2.length ≤ 1000000000) := Lib.hid (fun v hv => by have := rdV_small p r v hv; omega)
      have hv6 : (rdV p r).length ≤ 6 := Nat.le_of_eq (rdV_len p r)
      have KI := Lib.hid (fun W => c_iRoundPath p r W)
      have KS := Lib.hid (fun W => c_sRoundPath p r W)
      rw [Hm.out] at KI KS
      have HV := Lib.hid hV
      have HB1 := Lib.hid hb1
      have HB2 := Lib.hid hb2
      have HK := Lib.hid hok
      have hrb : 1 ≤ r ∧ r ≤ 1000 := by
        unfold rhOk at hd
        simp only [Bool.and_eq_true, inB_iff] at hd
        exact hd.1.2
      have hpb : (-1000 ≤ p.1 ∧ p.1 ≤ 1000) ∧ (-1000 ≤ p.2 ∧ p.2 ≤ 1000) := by
        unfold rhOk at hd
        simp only [Bool.and_eq_true] at hd
        exact vpB_iff.1 hd.1.1
      obtain ⟨n, hn⟩ : ∃ n, areaR [ps] = n := ⟨_, rfl⟩
      have HN := Lib.hid hn
      rw [hn] at ha1 ha2
      generalize rdV p r = vs at *
      clear hd hV hb1 hb2 hn hok
      go_wp2_with fail
      clear c0 c1
      refine (KI.out _).mono ?_
      rintro e w3 ⟨A3, cap3, ss3, rfl, ho3, hb⟩
      replace E := Lib.hid (Ext.trans E.out hb)
      replace R3 := Lib.hid (R3.out.ext hb)
      have lR3 := R3.out.lt
      clear hb
      have Q := Lib.hid (ho3.inK)
      have c0 := R3.out.cell_of (i := 0) rfl
      have c1 := R3.out.cell_of (i := 1) rfl
      clear ho3
      go_wp2_with fail
      clear c0 c1
      refine (KS.out _).mono ?_
      rintro e w4 ⟨A4, cap4, ss4, rfl, ho4, hb⟩
      replace E := Lib.hid (Ext.trans E.out hb)
      replace R3 := Lib.hid (R3.out.ext hb)
      have lR3 := R3.out.lt
      replace Q := Lib.hid (Q.out.ext verbK_stab hb)
      clear hb
      have W0 := Lib.hid (ho4.in_)
      have c0 := R3.out.cell_of (i := 0) rfl
      have c1 := R3.out.cell_of (i := 1) rfl
      clear ho4
      go_wp2_with fail
      clear c0 c1
      refine (c_equalPath _ _ _ _ vs _ Q.out.toV W0.out (by omega) Sm6.out).mono ?_
      rintro e w5 ⟨rfl, hb⟩
      replace E := Lib.hid (Ext.trans E.out hb)
      replace R3 := Lib.hid (R3.out.ext hb)
      have lR3 := R3.out.lt
      replace Q := Lib.hid (Q.out.ext verbK_stab hb)
      replace W0 := Lib.hid (W0.out.ext verbR_stab hb)
      clear hb
      have c0 := R3.out.cell_of (i := 0) rfl
      have c1 := R3.out.cell_of (i := 1) rfl
      clear c0 c1
      have E5 := Lib.hid E.out
      have Q5 := Lib.hid Q.out
      have R35 := Lib.hid R3.out
      clear E W0
      have E := Lib.hid (Below.refl w5.heap.size w5)
      go_wp2_with fail
      first | refine gen_calls ?_ | refine gen_code ?_ | refine gen_list ?_
      intro w6 hW
      obtain ⟨hb, hRO⟩ := new1 hW
      clear hW
      replace R3 := Lib.hid (R3.out.ext hb)
      have lR3 := R3.out.lt
      replace Q := Lib.hid (Q.out.ext verbK_stab hb)
      replace E := Lib.hid (Ext.trans E.out hb)
      clear hb
      have RO := Lib.hid hRO
      have lRO := RO.out.lt
      clear hRO
      have c0 := R3.out.cell_of (i := 0) rfl
      have c1 := R3.out.cell_of (i := 1) rfl
      have O := Lib.hid (own_of_row (n := 0) (B := w5.heap.size) (sz := 2) RO.out (Nat.le_refl _) rfl (by decide))
      clear RO lRO
      go_wp2_with fail
      clear c0 c1
      refine (c_iRingsOf A3 cap3 vs _ Q.out (by omega) Sm9.out).mono ?_
      rw [HV.out]
      rintro e w7 ⟨A6, cap6, ss6, rfl, ho6, hb⟩
      replace R3 := Lib.hid (R3.out.ext hb)
      have lR3 := R3.out.lt
      replace Q := Lib.hid (Q.out.ext verbK_stab hb)
      replace E := Lib.hid (Ext.trans E.out hb)
      replace O := Lib.hid (own_ext O.out hb)
      clear hb
      have G := Lib.hid (ho6.in_)
      have c0 := R3.out.cell_of (i := 0) rfl
      have c1 := R3.out.cell_of (i := 1) rfl
      clear ho6
      go_wp2_with fail
      go_loopw [9, 11] (fun v i wr => ∃ (k : Nat) (A1 : Option Addr) (cap1 : Nat) (out : List Pt), k ≤ 1 ∧ i = .int .i64 k ∧ v = .slice A1 out.length cap1 ∧ out = ([ps].take k).flatten ∧ (k = 0 → Rgs wr A6 [ps]) ∧ Has wr w5.heap.size 31 2 (.slice A1 out.length cap1) out.length (out.flatMap ptC) ∧ Below w5.heap.size w5 wr) (fun _ i _ => 1 - (intOf i).toNat)
      case atStart => exact ⟨0, _, 0, [], Nat.zero_le _, rfl, rfl, by simp, fun _ => G.out, O.out, E.out⟩
      case round =>
        obtain ⟨k, A1, cap1, out, hk, rfl, rfl, hout, hG, how, hbw⟩ := hrel
        clear O E G Q R3
        have O := Lib.hid how
        have E := Lib.hid hbw
        have Hout := Lib.hid hout
        have HG := Lib.hid hG
        have hzr : w5.heap.size ≤ wr.heap.size := hbw.size
        clear how hbw hout hG
        by_cases hlt : k < 1
        · obtain rfl : k = 0 := by omega
          obtain ⟨b, off, hA, hbw0, hc⟩ := (HG.out rfl).rgs (by simp)
          obtain ⟨A', cap', cr, hpp, hle, hmx⟩ := hc 0 (by simp)
          simp only [List.getElem_cons_zero, Nat.add_zero] at cr hpp hle
          have ho0 : out = [] := by rw [Hout.out]; simp
          have Hn : Hid (ps = ([ps].take (0 + 1)).flatten) := Lib.hid (by simp)
          have Hp := Lib.hid hpp
          subst hA ho0
          clear hc hpp Hout
          go_wp2_with (at_builtin; refine wpList_app (base := w5.heap.size) ei_pt rfl (.tmp 65) (.tmp 69) rfl rfl O.out rfl (Hp.out.src ptC_len (fun x us h => h) ptC_one (by decide)) (by simp; omega) hzr ?_; intro ve we hown hg hat; refine stop_in ?_)
          refine stop_out ?_
          clear cr
          obtain ⟨A9, cap9, hve⟩ := own_form hown
          have O3 : Hid (Has we w5.heap.size 31 2 (.slice A9 ps.length cap9) ps.length (ps.flatMap ptC)) := Lib.hid (by
            rw [hve] at hown; simpa using hown)
          have hve' : ve = .slice A9 ps.length cap9 := by rw [hve]; simp
          have E3 := Lib.hid (own_below E.out O.out hg hzr)
          clear hown hg hat hve
          subst hve'
          go_wp2
          go_roundw
          case rel => exact ⟨1, A9, cap9, ps, by omega, rfl, rfl, Hn.out, fun h => absurd h (by decide), O3.out, E3.out⟩
          case measure => simp [intOf]
        · obtain rfl : k = 1 := by omega
          have ho1 : out = ps := by rw [Hout.out]; simp
          subst ho1
          have Q := Lib.hid (Q5.out.ext verbK_stab E.out)
          have R3 := Lib.hid (R35.out.ext E.out)
          have V := Lib.hid (show Pts wr A1 out from own_in (R := ptR) (enc := ptC) ptC_len (by decide) O.out (fun _ => rfl))
          clear Hout HG
          clear c0 c1
          have c0 := R3.out.cell_of (i := 0) rfl
          have c1 := R3.out.cell_of (i := 1) rfl
          go_wp2_with fail
          clear c0 c1
          refine (c_BoxOf A1 cap1 out _ V.out (by omega)).mono ?_
          rw [HB1.out, HB2.out]
          rintro e w8 ⟨rfl, hb⟩
          replace E := Lib.hid (Ext.trans E.out hb)
          replace Q := Lib.hid (Q.out.ext verbK_stab hb)
          replace R3 := Lib.hid (R3.out.ext hb)
          have lR3 := R3.out.lt
          clear hb
          have c0 := R3.out.cell_of (i := 0) rfl
          have c1 := R3.out.cell_of (i := 1) rfl
          go_wp2_with fail
          clear c0 c1
          first | refine gen_calls ?_ | refine gen_code ?_ | refine gen_list ?_
          intro w9 hW
          obtain ⟨hb, hR9⟩ := new1 hW
          clear hW
          replace E := Lib.hid (Ext.trans E.out hb)
          replace Q := Lib.hid (Q.out.ext verbK_stab hb)
          replace R3 := Lib.hid (R3.out.ext hb)
          have lR3 := R3.out.lt
          clear hb
          have R9 := Lib.hid hR9
          have lR9 := R9.out.lt
          clear hR9
          have c0 := R3.out.cell_of (i := 0) rfl
          have c1 := R3.out.cell_of (i := 1) rfl
          clear c0 c1
          have c0 := R3.out.cell_of (i := 0) rfl
          have c1 := R3.out.cell_of (i := 1) rfl
          have d0 := R9.out.cell_of (i := 0) rfl
          have d1 := R9.out.cell_of (i := 1) rfl
          have d2 := R9.out.cell_of (i := 2) rfl
          have d3 := R9.out.cell_of (i := 3) rfl
          go_wp2_with fail
          clear c0 c1 d0 d1 d2 d3
          refine (c_iPathArea A3 cap3 vs _ Q.out (by omega) Sm9.out).mono ?_
          rw [HV.out, HN.out]
          rintro e w10 ⟨rfl, hb⟩
          replace E := Lib.hid (Ext.trans E.out hb)
          replace Q := Lib.hid (Q.out.ext verbK_stab hb)
          replace R3 := Lib.hid (R3.out.ext hb)
          have lR3 := R3.out.lt
          replace R9 := Lib.hid (R9.out.ext hb)
          have lR9 := R9.out.lt
          clear hb
          have c0 := R3.out.cell_of (i := 0) rfl
          have c1 := R3.out.cell_of (i := 1) rfl
          have d0 := R9.out.cell_of (i := 0) rfl
          have d1 := R9.out.cell_of (i := 1) rfl
          have d2 := R9.out.cell_of (i := 2) rfl
          have d3 := R9.out.cell_of (i := 3) rfl
          obtain ⟨rn, rfl⟩ : ∃ rn : Nat, r = (rn : Int) := ⟨r.toNat, by omega⟩
          have hrr : rn * rn ≤ 1000 * 1000 := Nat.mul_le_mul (by omega) (by omega)
          obtain ⟨q, hq⟩ : ∃ q : Nat, rn * rn = q := ⟨_, rfl⟩
          have e4 : 4 * (rn : Int) * (rn : Int) = 4 * (q : Int) := by rw [Int.mul_assoc, ← Int.natCast_mul, hq]
          have e8 : 8 * (rn : Int) * (rn : Int) = 8 * (q : Int) := by rw [Int.mul_assoc, ← Int.natCast_mul, hq]
          rw [e4] at ha1
          rw [e8] at ha2
          have g1 : IntKind.i64.wrap (4 * (rn : Int)) = 4 * (rn : Int) := IntWalk.i64_in _ (by omega)
          have g2 : IntKind.i64.wrap (4 * (rn : Int) * (rn : Int)) = 4 * (q : Int) := by rw [e4]; exact IntWalk.i64_in _ (by omega)
          have g3 : IntKind.i64.wrap (8 * (rn : Int)) = 8 * (rn : Int) := IntWalk.i64_in _ (by omega)
          have g4 : IntKind.i64.wrap (8 * (rn : Int) * (rn : Int)) = 8 * (q : Int) := by rw [e8]; exact IntWalk.i64_in _ (by omega)
          have m1 : decide (4 * (q : Int) - 16 * (rn : Int) ≤ n) = true := by simpa using ha1
          have m2 : decide (n ≤ 8 * (q : Int)) = true := by simpa using ha2
          have hq6 : q ≤ 1000000 := by rw [← hq]; exact hrr
          have g5 : IntKind.i64.wrap (4 * (q : Int) - 16 * (rn : Int)) = 4 * (q : Int) - 16 * (rn : Int) := IntWalk.i64_in _ (by omega)
          clear hq e4 e8 hrr
          go_wp2_with fail
          clear c0 c1 d0 d1 d2 d3
          refine (c_iValidPath A3 cap3 vs _ Q.out.toV (by omega) Sm9.out).mono ?_
          rw [HK.out]
          rintro e w11 ⟨rfl, hb⟩
          replace E := Lib.hid (Ext.trans E.out hb)
          replace Q := Lib.hid (Q.out.ext verbK_stab hb)
          replace R3 := Lib.hid (R3.out.ext hb)
          have lR3 := R3.out.lt
          replace R9 := Lib.hid (R9.out.ext hb)
          have lR9 := R9.out.lt
          clear hb
          have c0 := R3.out.cell_of (i := 0) rfl
          have c1 := R3.out.cell_of (i := 1) rfl
          have d0 := R9.out.cell_of (i := 0) rfl
          have d1 := R9.out.cell_of (i := 1) rfl
          have d2 := R9.out.cell_of (i := 2) rfl
          have d3 := R9.out.cell_of (i := 3) rfl
          go_wp2
          go_ret
          exact ⟨rfl, Ext.trans E5.out (Below.mono E.out (by have := E5.out.size; omega))⟩
  · have hnI : (1048576 : Int) < (bs.length : Int) := by omega
    clear h
    go_enter Try.func4, Try.ntmps4
    go_wp2
    go_ret
    exact ⟨rfl, Below.refl _ _⟩

theorem opens0 : Opens Try.prog 22 (slR byteR 1 ) :=  opens_slice Try.underlying22 (by kernel_rfl) (by decide) (opens_byte Try.underlying5)
set_option maxRecDepth 100000 in
theorem lifted (os : Os) (started : os.Started) (H : Type) (enc : TypeId × Value → H) :
    ReturnsInHanded {} Try.checked os 4 .any (Rows.fnRoundPathSpec.pre6 enc Try.prog Try.f4 Rows.fnRoundPathRow.domain false) (Rows.fnRoundPathSpec.post enc Try.prog Try.f4 false true false false) := by
  refine returnsInHanded_of_change (C := Try.checked) own started (by kernel_rfl) Try.func4
    (ChangeSpec.witness6 (enc := enc) (C := Try.checked) false ⟨#[], #[.slice none 0 0], []⟩ 8 (by kernel_rfl) (by kernel_rfl) (by kernel_rfl) (by kernel_rfl)) ?_
  intro W base args ds gs before hval0 hW hcnd _
  have hval : ∀ (j : Nat) t v, Try.f4.params[j]? = some t → args[j]? = some v → Value.okWide Try.prog W .any base t v := hval0
  have hW' := hW
  obtain ⟨p, q, hA0, hV, rfl, hfz, hnd⟩ := hW
  have hA : DataW.TrodAll enc Try.prog W 0 (fun _ => true) true Try.f4.params.toList args.toList ds p := hA0
  rw [Try.params4] at hA hval
  obtain ⟨v0, vs0, d0, ds0, p0, q0, hargs, rfl, rfl, h0, r0⟩ := trodAll_cons hA
  obtain ⟨rfl, rfl, rfl⟩ := trodAll_nil r0
  obtain rfl : args = #[v0] := by cases args; simp_all
  obtain ⟨rfl, rfl, rfl⟩ := trodVars_none hV
  obtain ⟨a0, len0, cap0, rfl⟩ := okWide_slice Try.underlying22 (hval 0 22 v0 rfl rfl)
  have k0 := h0
  have lt0 : ∀ x ∈ p0, x.block < W.heap.size := by obtain ⟨m, hm⟩ := k0; exact DataW.trod_lt m _ _ _ hm
  obtain ⟨xs0, rfl, w0, wl0, wc0⟩ := open_arg rfl opens0 h0
  clear hA0 hval0
  refine (walk a0 cap0 xs0 W w0 wl0 wc0).mono fun e W' ⟨he, bel⟩ => ?_
  subst he
  exact ⟨_, rfl, _, _, _, [], _, [], hW', trodAll_mk1 (shut_bool Try.underlying4 _), (trodAll_cons_mk (Below.trod laidOut (by kernel_rfl) (of_decide_eq_true (by kernel_rfl)) k0 bel lt0) trodAll_mk0), rfl, bel.frame _, fun h => by cases h⟩
theorem over : Rows.fnRoundPathRow.holds Try.pinned (OpenSpec.ofChange Rows.fnRoundPathSpec) :=
  OpenClaim.holds_of_wide 4 Try.f4 rfl rfl rfl rfl rfl rfl rfl ⟨rfl, rfl, rfl, rfl, rfl⟩ rfl rfl rfl rfl rfl (by kernel_rfl) Try.func4 (by kernel_rfl)
    (of_decide_eq_true (by kernel_rfl)) (by unfold Func.isWrapper; first | (rw [if_pos (by decide +kernel)]; kernel_rfl) | (rw [if_neg (by decide +kernel)]; exact ⟨rfl, rfl⟩))
    (fun os started H enc _ => lifted os started H enc)

theorem proved : Rows.FnRoundPathSaid := over

end Go.Proofs.Ytalicpgnjpgloaa.fnRoundPath

