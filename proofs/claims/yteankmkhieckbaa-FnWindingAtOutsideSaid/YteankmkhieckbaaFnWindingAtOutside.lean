/- Outside the box around a polygon nothing winds, whatever the bytes that the polygons and the point are drawn from. -/
import Derived.Test.YteankmkhieckbaaWindX
import Derived.Test.YteankmkhieckbaaCleanBox
import Derived.Test.YteankmkhieckbaaOpen
namespace Go.Proofs.Yteankmkhieckbaa.fnWindingAtOutside
open Go Go.RowKit Go.ChangeShapes Go.WideShapes Go.ChangeAt Go.Deep Reg
attribute [local go_sem] calmAt calmUpon

theorem stepX_zero {x y : Int} {r : Rg} (h : sumE (stepL x y) r = 0) : sumE (stepX x y) r = 0 := by
  rcases Bool.eq_false_or_eq_true (inB x (-1000) 1000 && inB y (-1000) 1000) with hb | hb
  · rw [← h]; refine sumE_congr fun a _ b _ => ?_
    unfold stepX; rw [hb]; rfl
  · rw [← sumE_zero r]; refine sumE_congr fun a _ b _ => ?_
    unfold stepX; rw [hb]; rfl
theorem wind1 {x y : Int} {r : Rg} (hr : rgsB [r] = true) (h : sumE (stepL x y) r = 0) : windR [r] x y = 0 := by
  rw [windR_eq hr, sumS_one]; exact stepX_zero h
theorem out4 {r : Rg} (h0 : 0 < r.length) (hp : psB r = true) (hr : rgsB [r] = true) (x y : Int) : ∃ b1 b2 b3 b4, boxR r = (b1, b2, b3, b4) ∧ boxOk1 r = true ∧
    (-2000 ≤ b1 ∧ b1 ≤ 2000 ∧ -2000 ≤ b2 ∧ b2 ≤ 2000 ∧ -2000 ≤ b3 ∧ b3 ≤ 2000 ∧ -2000 ≤ b4 ∧ b4 ≤ 2000) ∧
    windR [r] x (b2 - 1) = 0 ∧ windR [r] x b4 = 0 ∧ windR [r] (b1 - 1) y = 0 ∧ windR [r] b3 y = 0 := by
  have hk : boxOk1 r = true := by simp [boxOk1, hp]; omega
  have hb : boxR r = boxOfL r := by simp [boxR, hk]
  obtain ⟨hi, ⟨p1, m1, e1⟩, ⟨p2, m2, e2⟩, ⟨p3, m3, e3⟩, ⟨p4, m4, e4⟩⟩ := isBox_boxOfL h0
  rw [hb]
  generalize boxOfL r = B at *
  obtain ⟨b1, b2, b3, b4⟩ := B
  dsimp only at *
  have c1 := crd2_of hp m1
  have c2 := crd2_of hp m2
  have c3 := crd2_of hp m3
  have c4 := crd2_of hp m4
  unfold Crd2 at c1 c2 c3 c4
  refine ⟨b1, b2, b3, b4, rfl, hk, by omega, wind1 hr (wind_above fun p hp => ?_), wind1 hr (wind_below fun p hp => ?_), wind1 hr (wind_left fun p hp => ?_), wind1 hr (wind_right fun p hp => ?_)⟩
  all_goals (have := hi p hp; omega)

theorem own : ownKnob Try.prog.godebug = none := by kernel_rfl
theorem laidOut : laidOutB Try.prog = true := by kernel_rfl

set_option maxRecDepth 100000 in
set_option maxHeartbeats 8000000 in
theorem walk (A : Option Addr) (cap : Nat) (bs : List Int) (w : World) (h : In byteR 1 w A bs) (hlc : bs.length ≤ cap) (hcm : cap ≤ maxLen) :
    Calls Try.prog 12 #[.slice A bs.length cap] w fun e w' => e = .returned (.bool true) ∧ Below w.heap.size w w' := by
  unfold maxLen at hcm
  by_cases hn : bs.length ≤ 1048576
  · have hnI : ¬ (1048576 : Int) < (bs.length : Int) := by omega
    have K0 := Lib.hid (c_DrawWindingAt A cap bs w h hlc (by omega))
    clear h hn
    go_enter Try.func12, Try.ntmps12
    go_wp2_with fail
    refine K0.out.mono ?_
    rintro e w1 ⟨A1, cap1, rs, x, y, rfl, hal, hcap, hxy, hrs, hb⟩
    have E := Lib.hid hb
    have H := Lib.hid hrs
    have hrl := hal.1
    have hc300 : corners rs ≤ 300 * rs.length := corners_le300 (fun r hr => (hal.2 r hr).1)
    have Hs : Hid (∀ r ∈ rs, r.length ≤ 1000000000) := Lib.hid (fun r hr => by have := (hal.2 r hr).1; omega)
    obtain ⟨⟨hx1, hx2⟩, hy1, hy2⟩ := hxy
    dsimp only at hx1 hx2 hy1 hy2
    clear hb hrs hal K0
    obtain ⟨S, hS⟩ : ∃ S, windR rs x y = S := ⟨_, rfl⟩
    have HS := Lib.hid hS
    clear hS
    go_wp2_with fail
    refine (c_iWindingAt A1 cap1 rs x y _ H.out (by omega) Hs.out).mono ?_
    rw [HS.out]
    rintro e w2 ⟨rfl, hb⟩
    replace E := Lib.hid (Ext.trans E.out hb)
    replace H := Lib.hid (H.out.ext rgR_stab hb)
    clear hb
    go_wp2_with fail
    refine (c_sWindingAt A1 cap1 rs x y _ H.out (by omega) Hs.out).mono ?_
    rw [HS.out]
    rintro e w3 ⟨rfl, hb⟩
    replace E := Lib.hid (Ext.trans E.out hb)
    replace H := Lib.hid (H.out.ext rgR_stab hb)
    clear hb

    obtain ⟨d, hd⟩ : ∃ d, rgsB rs = d := ⟨_, rfl⟩
    have Hd := Lib.hid hd
    clear hd
    go_wp2_with fail
    refine (c_iValidRings A1 cap1 rs _ H.out (by omega) Hs.out).mono ?_
    rw [Hd.out]
    rintro e w4 ⟨rfl, hb⟩
    replace E := Lib.hid (Ext.trans E.out hb)
    replace H := Lib.hid (H.out.ext rgR_stab hb)
    clear hb
    cases d
    · go_wp2_with fail
      refine (c_sWindingAt A1 cap1 rs x y _ H.out (by omega) Hs.out).mono ?_
      rw [HS.out]
      rintro e w5 ⟨rfl, hb⟩
      replace E := Lib.hid (Ext.trans E.out hb)
      replace H := Lib.hid (H.out.ext rgR_stab hb)
      clear hb
      go_wp2
      go_ret
      exact ⟨rfl, E.out⟩

    · have hr := rgsB_iff.1 Hd.out
      have Hr := Lib.hid hr.1
      have hr8 : rs.length ≤ 8 := hr.2.1
      clear hr
      obtain ⟨wb, hwb⟩ : ∃ wb : World, wb = w4 := ⟨_, rfl⟩
      subst hwb
      go_wp2_with fail
      go_loopw [7] (fun i wr => ∃ (k : Nat), k ≤ rs.length ∧ i = .int .i64 k ∧ Ext wb wr) (fun i _ => rs.length - (intOf i).toNat)
      case atStart => exact ⟨0, Nat.zero_le _, rfl, Below.refl _ _⟩
      case round =>
        obtain ⟨k, hk, rfl, hx⟩ := hrel
        have X := Lib.hid hx
        clear hx
        by_cases hlt : k < rs.length
        · have hone : (rs.take (k + 1)).drop k = [rs[k]] := by rw [List.take_succ_eq_append_getElem hlt, List.drop_append_of_le_length (by rw [List.length_take]; omega)]; simp
          have Hsub : Hid (Rgs wr (subA A1 cap1 k 1) [rs[k]]) := Lib.hid (by rw [← hone]; exact (H.out.ext rgR_stab X.out).sub (by omega) (by omega) hcap)
          have hsl : ∀ W, (Instr.slice 25 (.slice A1 rs.length cap1) (some (.int .i64 (k : Int))) (some (.int .i64 ((k : Int) + 1))) none).run Try.prog W = .ok (.slice (subA A1 cap1 k 1) (k + 1 - k) (cap1 - k)) W := fun W => run_slice2 ei_rg _ _ _ k (k + 1) _ _ rfl (by omega) (by omega) (by omega) W
          have e1 : k + 1 - k = 1 := by omega
          rw [e1] at hsl
          have hr1 : rgsB [rs[k]] = true := rgsB_one (Hr.out _ (List.getElem_mem hlt))
          have K := Lib.hid (fun W x y (hW : Rgs W (subA A1 cap1 k 1) [rs[k]]) => 
            c_iWindingAt (subA A1 cap1 k 1) (cap1 - k) [rs[k]] x y W hW (by simp) (fun r hr => by simp at hr; subst hr; exact Hs.out _ (List.getElem_mem hlt)))
          obtain ⟨h0, hps⟩ := Hr.out _ (List.getElem_mem hlt)
          have h1000 := Hs.out _ (List.getElem_mem hlt)
          obtain ⟨b1, b2, b3, b4, hB, hok, hbb, o1, o2, o3, o4⟩ := out4 h0 hps hr1 x y
          obtain ⟨b, off, hA, _, hc⟩ := (H.out.ext rgR_stab X.out).rgs (by omega)
          obtain ⟨A', cap', cr, hp, hle, hmx⟩ := hc k hlt
          generalize subA A1 cap1 k 1 = As at *
          have OO := Lib.hid (And.intro o1 (And.intro o2 (And.intro o3 o4)))
          have HB := Lib.hid (And.intro hB hok)
          have Hp := Lib.hid hp
          have Cr := Lib.hid cr
          clear hone e1 hr1 hc hp cr hB hok o1 o2 o3 o4
          generalize rs[k] = r at *
          subst hA
          have cr := Cr.out
          go_wp2_with fail
          clear cr
          refine (c_BoxOf A' cap' r _ Hp.out h1000).mono ?_
          rw [HB.out.1, HB.out.2]
          rintro e w5 ⟨rfl, hb⟩
          replace X := Lib.hid (Ext.trans X.out hb)
          replace Hsub := Lib.hid (Hsub.out.ext rgR_stab hb)
          replace Hp := Lib.hid (Hp.out.ext ptR_stab hb)
          replace Cr := Lib.hid (Cls.cell hb Cr.out)
          clear hb
          have cCr := Cr.out
          go_wp2_with fail
          clear cCr
          first | refine gen_calls ?_ | refine gen_code ?_ | refine gen_list ?_
          intro w6 hW
          obtain ⟨hb, hP⟩ := new1 hW
          clear hW
          replace X := Lib.hid (Ext.trans X.out hb)
          replace Hsub := Lib.hid (Hsub.out.ext rgR_stab hb)
          replace Hp := Lib.hid (Hp.out.ext ptR_stab hb)
          replace Cr := Lib.hid (Cls.cell hb Cr.out)
          clear hb
          have P := Lib.hid hP
          have lP := P.out.lt
          clear hP
          have cCr := Cr.out
          clear cCr
          have cCr := Cr.out
          have bb0 := P.out.cell_of (i := 0) rfl
          have bb1 := P.out.cell_of (i := 1) rfl
          have bb2 := P.out.cell_of (i := 2) rfl
          have bb3 := P.out.cell_of (i := 3) rfl
          go_wp2_with fail
          clear cCr bb0 bb1 bb2 bb3
          refine (K.out _ x (b2 - 1) Hsub.out).mono ?_
          rw [OO.out.1]
          rintro e w7 ⟨rfl, hb⟩
          replace X := Lib.hid (Ext.trans X.out hb)
          replace Hsub := Lib.hid (Hsub.out.ext rgR_stab hb)
          replace Hp := Lib.hid (Hp.out.ext ptR_stab hb)
          replace Cr := Lib.hid (Cls.cell hb Cr.out)
          replace P := Lib.hid (P.out.ext hb)
          have lP := P.out.lt
          clear hb
          have cCr := Cr.out
          have bb0 := P.out.cell_of (i := 0) rfl
          have bb1 := P.out.cell_of (i := 1) rfl
          have bb2 := P.out.cell_of (i := 2) rfl
          have bb3 := P.out.cell_of (i := 3) rfl
          go_wp2_with fail
          clear cCr bb0 bb1 bb2 bb3
          refine (K.out _ x b4 Hsub.out).mono ?_
          rw [OO.out.2.1]
          rintro e w8 ⟨rfl, hb⟩
          replace X := Lib.hid (Ext.trans X.out hb)
          replace Hsub := Lib.hid (Hsub.out.ext rgR_stab hb)
          replace Hp := Lib.hid (Hp.out.ext ptR_stab hb)
          replace Cr := Lib.hid (Cls.cell hb Cr.out)
          replace P := Lib.hid (P.out.ext hb)
          have lP := P.out.lt
          clear hb
          have cCr := Cr.out
          have bb0 := P.out.cell_of (i := 0) rfl
          have bb1 := P.out.cell_of (i := 1) rfl
          have bb2 := P.out.cell_of (i := 2) rfl
          have bb3 := P.out.cell_of (i := 3) rfl
          go_wp2_with fail
          clear cCr bb0 bb1 bb2 bb3
          refine (K.out _ (b1 - 1) y Hsub.out).mono ?_
          rw [OO.out.2.2.1]
          rintro e w9 ⟨rfl, hb⟩
          replace X := Lib.hid (Ext.trans X.out hb)
          replace Hsub := Lib.hid (Hsub.out.ext rgR_stab hb)
          replace Hp := Lib.hid (Hp.out.ext ptR_stab hb)
          replace Cr := Lib.hid (Cls.cell hb Cr.out)
          replace P := Lib.hid (P.out.ext hb)
          have lP := P.out.lt
          clear hb
          have cCr := Cr.out
          have bb0 := P.out.cell_of (i := 0) rfl
          have bb1 := P.out.cell_of (i := 1) rfl
          have bb2 := P.out.cell_of (i := 2) rfl
          have bb3 := P.out.cell_of (i := 3) rfl
          go_wp2_with fail
          clear cCr bb0 bb1 bb2 bb3
          refine (K.out _ b3 y Hsub.out).mono ?_
          rw [OO.out.2.2.2]
          rintro e w10 ⟨rfl, hb⟩
          replace X := Lib.hid (Ext.trans X.out hb)
          replace Hsub := Lib.hid (Hsub.out.ext rgR_stab hb)
          replace Hp := Lib.hid (Hp.out.ext ptR_stab hb)
          replace Cr := Lib.hid (Cls.cell hb Cr.out)
          replace P := Lib.hid (P.out.ext hb)
          have lP := P.out.lt
          clear hb
          have cCr := Cr.out
          have bb0 := P.out.cell_of (i := 0) rfl
          have bb1 := P.out.cell_of (i := 1) rfl
          have bb2 := P.out.cell_of (i := 2) rfl
          have bb3 := P.out.cell_of (i := 3) rfl
          go_wp2
          go_roundw
          case rel => exact ⟨k + 1, by omega, by go_num, X.out⟩
          case measure => simp [intOf]; omega
        · have hk' : ¬ ((k : Int) < (rs.length : Int)) := by omega
          go_wp2
          go_ret
          exact ⟨rfl, Ext.trans E.out X.out⟩
  · have hnI : (1048576 : Int) < (bs.length : Int) := by omega
    clear h
    go_enter Try.func12, Try.ntmps12
    go_wp2
    go_ret
    exact ⟨rfl, Below.refl _ _⟩

theorem opens0 : Opens Try.prog 34 (slR byteR 1 ) :=  opens_slice Try.underlying34 (by kernel_rfl) (by decide) (opens_byte Try.underlying5)
set_option maxRecDepth 100000 in
theorem lifted (os : Os) (started : os.Started) (H : Type) (enc : TypeId × Value → H) :
    ReturnsInHanded {} Try.checked os 12 .any (Rows.fnWindingAtOutsideSpec.pre6 enc Try.prog Try.f12 Rows.fnWindingAtOutsideRow.domain false) (Rows.fnWindingAtOutsideSpec.post enc Try.prog Try.f12 false true false false) := by
  refine returnsInHanded_of_change (C := Try.checked) own started (by kernel_rfl) Try.func12
    (ChangeSpec.witness6 (enc := enc) (C := Try.checked) false ⟨#[], #[.slice none 0 0], []⟩ 8 (by kernel_rfl) (by kernel_rfl) (by kernel_rfl) (by kernel_rfl)) ?_
  intro W base args ds gs before hval0 hW hcnd _
  have hval : ∀ (j : Nat) t v, Try.f12.params[j]? = some t → args[j]? = some v → Value.okWide Try.prog W .any base t v := hval0
  have hW' := hW
  obtain ⟨p, q, hA0, hV, rfl, hfz, hnd⟩ := hW
  have hA : DataW.TrodAll enc Try.prog W 0 (fun _ => true) true Try.f12.params.toList args.toList ds p := hA0
  rw [Try.params12] at hA hval
  obtain ⟨v0, vs0, d0, ds0, p0, q0, hargs, rfl, rfl, h0, r0⟩ := trodAll_cons hA
  obtain ⟨rfl, rfl, rfl⟩ := trodAll_nil r0
  obtain rfl : args = #[v0] := by cases args; simp_all
  obtain ⟨rfl, rfl, rfl⟩ := trodVars_none hV
  obtain ⟨a0, len0, cap0, rfl⟩ := okWide_slice Try.underlying34 (hval 0 34 v0 rfl rfl)
  have k0 := h0
  have lt0 : ∀ x ∈ p0, x.block < W.heap.size := by obtain ⟨m, hm⟩ := k0; exact DataW.trod_lt m _ _ _ hm
  obtain ⟨xs0, rfl, w0, wl0, wc0⟩ := open_arg rfl opens0 h0
  clear hA0 hval0
  refine (walk a0 cap0 xs0 W w0 wl0 wc0).mono fun e W' ⟨he, bel⟩ => ?_
  subst he
  exact ⟨_, rfl, _, _, _, [], _, [], hW', trodAll_mk1 (shut_bool Try.underlying4 _), (trodAll_cons_mk (Below.trod laidOut (by kernel_rfl) (of_decide_eq_true (by kernel_rfl)) k0 bel lt0) trodAll_mk0), rfl, bel.frame _, fun h => by cases h⟩
theorem over : Rows.fnWindingAtOutsideRow.holds Try.pinned (OpenSpec.ofChange Rows.fnWindingAtOutsideSpec) :=
  OpenClaim.holds_of_wide 12 Try.f12 rfl rfl rfl rfl rfl rfl rfl ⟨rfl, rfl, rfl, rfl, rfl⟩ rfl rfl rfl rfl rfl (by kernel_rfl) Try.func12 (by kernel_rfl)
    (of_decide_eq_true (by kernel_rfl)) (by unfold Func.isWrapper; first | (rw [if_pos (by decide +kernel)]; kernel_rfl) | (rw [if_neg (by decide +kernel)]; exact ⟨rfl, rfl⟩))
    (fun os started H enc _ => lifted os started H enc)

theorem proved : Rows.FnWindingAtOutsideSaid := over

end Go.Proofs.Yteankmkhieckbaa.fnWindingAtOutside

