/- A backdrop is a winding one unit to the left of the column, whatever the bytes that the polygons and the place are drawn from. -/
import Derived.Test.YteankmkhieckbaaWindX
import Derived.Test.YteankmkhieckbaaOpen
namespace Go.Proofs.Yteankmkhieckbaa.fnBackdropOf
open Go Go.RowKit Go.ChangeShapes Go.WideShapes Go.ChangeAt Go.Deep Reg
attribute [local go_sem] calmAt calmUpon

theorem own : ownKnob Try.prog.godebug = none := by kernel_rfl
theorem laidOut : laidOutB Try.prog = true := by kernel_rfl

set_option maxRecDepth 100000 in
set_option maxHeartbeats 8000000 in
theorem walk (A : Option Addr) (cap : Nat) (bs : List Int) (w : World) (h : In byteR 1 w A bs) (hlc : bs.length ≤ cap) (hcm : cap ≤ maxLen) :
    Calls Try.prog 13 #[.slice A bs.length cap] w fun e w' => e = .returned (.bool true) ∧ Below w.heap.size w w' := by
  unfold maxLen at hcm
  by_cases hn : bs.length ≤ 1048576
  · have hnI : ¬ (1048576 : Int) < (bs.length : Int) := by omega
    have K0 := Lib.hid (c_DrawBackdropOf A cap bs w h hlc (by omega))
    clear h hn
    go_enter Try.func13, Try.ntmps13
    go_wp2_with fail
    refine K0.out.mono ?_
    rintro e w1 ⟨A1, cap1, rs, x, y, rfl, hal, hcap, hxy, hrs, hb⟩
    have E := Lib.hid hb
    have H := Lib.hid hrs
    have hrl := hal.1
    have hc300 : corners rs ≤ 300 * rs.length := corners_le300 (fun r hr => (hal.2 r hr).1)
    have Hs : Hid (∀ r ∈ rs, r.length ≤ 1000000000) := Lib.hid (fun r hr => by have := (hal.2 r hr).1; omega)
    obtain ⟨⟨hx1, hx2⟩, hy1, hy2⟩ := hxy
    dsimp only at hx1 hx2 hy1 hy2
    clear hb hrs hal K0
    obtain ⟨S, hS⟩ : ∃ S, backR rs x y = S := ⟨_, rfl⟩
    have HS := Lib.hid hS
    clear hS
    go_wp2_with fail
    refine (c_iBackdropOf A1 cap1 rs x y _ H.out (by omega) Hs.out).mono ?_
    rw [HS.out]
    rintro e w2 ⟨rfl, hb⟩
    replace E := Lib.hid (Ext.trans E.out hb)
    replace H := Lib.hid (H.out.ext rgR_stab hb)
    clear hb
    go_wp2_with fail
    refine (c_sBackdropOf A1 cap1 rs x y _ H.out (by omega) Hs.out).mono ?_
    rw [HS.out]
    rintro e w3 ⟨rfl, hb⟩
    replace E := Lib.hid (Ext.trans E.out hb)
    replace H := Lib.hid (H.out.ext rgR_stab hb)
    clear hb

    obtain ⟨d, hd⟩ : ∃ d, rgsB rs = d := ⟨_, rfl⟩
    have Hd := Lib.hid hd
    clear hd
    go_wp2_with fail
    refine (c_iValidRings A1 cap1 rs _ H.out (by omega) Hs.out).mono ?_
    rw [Hd.out]
    rintro e w4 ⟨rfl, hb⟩
    replace E := Lib.hid (Ext.trans E.out hb)
    replace H := Lib.hid (H.out.ext rgR_stab hb)
    clear hb
    cases d
    · go_wp2_with fail
      refine (c_sBackdropOf A1 cap1 rs x y _ H.out (by omega) Hs.out).mono ?_
      rw [HS.out]
      rintro e w5 ⟨rfl, hb⟩
      replace E := Lib.hid (Ext.trans E.out hb)
      replace H := Lib.hid (H.out.ext rgR_stab hb)
      clear hb
      go_wp2
      go_ret
      exact ⟨rfl, E.out⟩

    · have hcase : (x < 0) ∨ (¬ x < 0 ∧ 12 < x) ∨ (¬ x < 0 ∧ ¬ 12 < x ∧ y < 0) ∨ (¬ x < 0 ∧ ¬ 12 < x ∧ ¬ y < 0 ∧ 48 ≤ y) ∨ (¬ x < 0 ∧ ¬ 12 < x ∧ ¬ y < 0 ∧ ¬ 48 ≤ y) := by omega
      rcases hcase with g1 | ⟨g1, g2⟩ | ⟨g1, g2, g3⟩ | ⟨g1, g2, g3, g4⟩ | ⟨g1, g2, g3, g4⟩
      · have b1 : decide (x < 0) = true := by simpa using g1
        go_wp2_with fail
        refine (c_sBackdropOf A1 cap1 rs x y _ H.out (by omega) Hs.out).mono ?_
        rw [HS.out]
        rintro e w5 ⟨rfl, hb⟩
        replace E := Lib.hid (Ext.trans E.out hb)
        replace H := Lib.hid (H.out.ext rgR_stab hb)
        clear hb
        go_wp2
        go_ret
        exact ⟨rfl, E.out⟩
      · have b1 : decide (x < 0) = false := by simpa using g1
        have b2 : decide (12 < x) = true := by simpa using g2
        go_wp2_with fail
        refine (c_sBackdropOf A1 cap1 rs x y _ H.out (by omega) Hs.out).mono ?_
        rw [HS.out]
        rintro e w5 ⟨rfl, hb⟩
        replace E := Lib.hid (Ext.trans E.out hb)
        replace H := Lib.hid (H.out.ext rgR_stab hb)
        clear hb
        go_wp2
        go_ret
        exact ⟨rfl, E.out⟩
      · have b1 : decide (x < 0) = false := by simpa using g1
        have b2 : decide (12 < x) = false := by simpa using g2
        have b3 : decide (y < 0) = true := by simpa using g3
        go_wp2_with fail
        refine (c_sBackdropOf A1 cap1 rs x y _ H.out (by omega) Hs.out).mono ?_
        rw [HS.out]
        rintro e w5 ⟨rfl, hb⟩
        replace E := Lib.hid (Ext.trans E.out hb)
        replace H := Lib.hid (H.out.ext rgR_stab hb)
        clear hb
        go_wp2
        go_ret
        exact ⟨rfl, E.out⟩
      · have b1 : decide (x < 0) = false := by simpa using g1
        have b2 : decide (12 < x) = false := by simpa using g2
        have b3 : decide (y < 0) = false := by simpa using g3
        have b4 : decide (48 ≤ y) = true := by simpa using g4
        go_wp2_with fail
        refine (c_sBackdropOf A1 cap1 rs x y _ H.out (by omega) Hs.out).mono ?_
        rw [HS.out]
        rintro e w5 ⟨rfl, hb⟩
        replace E := Lib.hid (Ext.trans E.out hb)
        replace H := Lib.hid (H.out.ext rgR_stab hb)
        clear hb
        go_wp2
        go_ret
        exact ⟨rfl, E.out⟩
      have b1 : decide (x < 0) = false := by simpa using g1
      have b2 : decide (12 < x) = false := by simpa using g2
      have b3 : decide (y < 0) = false := by simpa using g3
      have b4 : decide (48 ≤ y) = false := by simpa using g4
      have Hv : Hid (windR rs (16 * x - 1) (4 * y + 2) = S) := Lib.hid (by
        rw [← HS.out]; unfold windR backR
        rw [Hd.out, (inB_iff (lo := -1000) (hi := 1000)).2 (by omega), (inB_iff (lo := -1000) (hi := 1000)).2 (by omega), (inB_iff (lo := 0) (hi := 12)).2 (by omega), (inB_iff (lo := 0) (hi := 47)).2 (by omega)])
      go_wp2_with fail
      refine (c_iWindingAt A1 cap1 rs (16 * x - 1) (4 * y + 2) _ H.out (by omega) Hs.out).mono ?_
      rw [Hv.out]
      rintro e w5 ⟨rfl, hb⟩
      replace E := Lib.hid (Ext.trans E.out hb)
      replace H := Lib.hid (H.out.ext rgR_stab hb)
      clear hb
      go_wp2
      go_ret
      exact ⟨rfl, E.out⟩
  · have hnI : (1048576 : Int) < (bs.length : Int) := by omega
    clear h
    go_enter Try.func13, Try.ntmps13
    go_wp2
    go_ret
    exact ⟨rfl, Below.refl _ _⟩

theorem opens0 : Opens Try.prog 34 (slR byteR 1 ) :=  opens_slice Try.underlying34 (by kernel_rfl) (by decide) (opens_byte Try.underlying5)
set_option maxRecDepth 100000 in
theorem lifted (os : Os) (started : os.Started) (H : Type) (enc : TypeId × Value → H) :
    ReturnsInHanded {} Try.checked os 13 .any (Rows.fnBackdropOfSpec.pre6 enc Try.prog Try.f13 Rows.fnBackdropOfRow.domain false) (Rows.fnBackdropOfSpec.post enc Try.prog Try.f13 false true false false) := by
  refine returnsInHanded_of_change (C := Try.checked) own started (by kernel_rfl) Try.func13
    (ChangeSpec.witness6 (enc := enc) (C := Try.checked) false ⟨#[], #[.slice none 0 0], []⟩ 8 (by kernel_rfl) (by kernel_rfl) (by kernel_rfl) (by kernel_rfl)) ?_
  intro W base args ds gs before hval0 hW hcnd _
  have hval : ∀ (j : Nat) t v, Try.f13.params[j]? = some t → args[j]? = some v → Value.okWide Try.prog W .any base t v := hval0
  have hW' := hW
  obtain ⟨p, q, hA0, hV, rfl, hfz, hnd⟩ := hW
  have hA : DataW.TrodAll enc Try.prog W 0 (fun _ => true) true Try.f13.params.toList args.toList ds p := hA0
  rw [Try.params13] at hA hval
  obtain ⟨v0, vs0, d0, ds0, p0, q0, hargs, rfl, rfl, h0, r0⟩ := trodAll_cons hA
  obtain ⟨rfl, rfl, rfl⟩ := trodAll_nil r0
  obtain rfl : args = #[v0] := by cases args; simp_all
  obtain ⟨rfl, rfl, rfl⟩ := trodVars_none hV
  obtain ⟨a0, len0, cap0, rfl⟩ := okWide_slice Try.underlying34 (hval 0 34 v0 rfl rfl)
  have k0 := h0
  have lt0 : ∀ x ∈ p0, x.block < W.heap.size := by obtain ⟨m, hm⟩ := k0; exact DataW.trod_lt m _ _ _ hm
  obtain ⟨xs0, rfl, w0, wl0, wc0⟩ := open_arg rfl opens0 h0
  clear hA0 hval0
  refine (walk a0 cap0 xs0 W w0 wl0 wc0).mono fun e W' ⟨he, bel⟩ => ?_
  subst he
  exact ⟨_, rfl, _, _, _, [], _, [], hW', trodAll_mk1 (shut_bool Try.underlying4 _), (trodAll_cons_mk (Below.trod laidOut (by kernel_rfl) (of_decide_eq_true (by kernel_rfl)) k0 bel lt0) trodAll_mk0), rfl, bel.frame _, fun h => by cases h⟩
theorem over : Rows.fnBackdropOfRow.holds Try.pinned (OpenSpec.ofChange Rows.fnBackdropOfSpec) :=
  OpenClaim.holds_of_wide 13 Try.f13 rfl rfl rfl rfl rfl rfl rfl ⟨rfl, rfl, rfl, rfl, rfl⟩ rfl rfl rfl rfl rfl (by kernel_rfl) Try.func13 (by kernel_rfl)
    (of_decide_eq_true (by kernel_rfl)) (by unfold Func.isWrapper; first | (rw [if_pos (by decide +kernel)]; kernel_rfl) | (rw [if_neg (by decide +kernel)]; exact ⟨rfl, rfl⟩))
    (fun os started H enc _ => lifted os started H enc)

theorem proved : Rows.FnBackdropOfSaid := over

end Go.Proofs.Yteankmkhieckbaa.fnBackdropOf

