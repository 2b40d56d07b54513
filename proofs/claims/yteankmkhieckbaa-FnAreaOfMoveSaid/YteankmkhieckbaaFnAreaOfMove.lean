/- The area of moved polygons is the same, whatever the bytes that the polygons are drawn from. -/
import Derived.Test.YteankmkhieckbaaGenT
import Derived.Test.YteankmkhieckbaaAreaS
import Derived.Test.YteankmkhieckbaaMovedR
import Derived.Test.YteankmkhieckbaaOpen
namespace Go.Proofs.Yteankmkhieckbaa.fnAreaOfMove
open Go Go.RowKit Go.ChangeShapes Go.WideShapes Go.ChangeAt Go.Deep Reg
attribute [local go_sem] calmAt calmUpon

theorem own : ownKnob Try.prog.godebug = none := by kernel_rfl
theorem laidOut : laidOutB Try.prog = true := by kernel_rfl

set_option maxRecDepth 100000 in
set_option maxHeartbeats 8000000 in
theorem walk (A : Option Addr) (cap : Nat) (bs : List Int) (w : World) (h : In byteR 1 w A bs) (hlc : bs.length ≤ cap) (hcm : cap ≤ maxLen) :
    Calls Try.prog 7 #[.slice A bs.length cap] w fun e w' => e = .returned (.bool true) ∧ Below w.heap.size w w' := by
  unfold maxLen at hcm
  by_cases hn : bs.length ≤ 1048576
  · have hnI : ¬ (1048576 : Int) < (bs.length : Int) := by omega
    have K0 := Lib.hid (c_DrawAreaOf A cap bs w h hlc (by omega))
    clear h hn
    go_enter Try.func7, Try.ntmps7
    go_wp2_with fail
    refine K0.out.mono ?_
    rintro e w1 ⟨A1, cap1, rs, rfl, hal, hcap, hrs, hb⟩
    have E := Lib.hid hb
    have H := Lib.hid hrs
    have hrl := hal.1
    have Hs : Hid (∀ r ∈ rs, r.length ≤ 1000000000) := Lib.hid (fun r hr => by have := (hal.2 r hr).1; omega)
    clear hb hrs hal K0
    obtain ⟨S, hS⟩ : ∃ S, areaR rs = S := ⟨_, rfl⟩
    have HS := Lib.hid hS
    obtain ⟨d, hd⟩ : ∃ d, rgsB rs = d := ⟨_, rfl⟩
    have Hd := Lib.hid hd
    clear hS hd
    go_wp2_with fail
    refine (c_iAreaOf A1 cap1 rs _ H.out (by omega) Hs.out).mono ?_
    rw [HS.out]
    rintro e w2 ⟨rfl, hb⟩
    replace E := Lib.hid (Ext.trans E.out hb)
    replace H := Lib.hid (H.out.ext rgR_stab hb)
    clear hb
    go_wp2_with fail
    refine (c_sAreaOf A1 cap1 rs _ H.out (by omega) Hs.out).mono ?_
    rw [HS.out]
    rintro e w3 ⟨rfl, hb⟩
    replace E := Lib.hid (Ext.trans E.out hb)
    replace H := Lib.hid (H.out.ext rgR_stab hb)
    clear hb
    go_wp2_with fail
    refine (c_iValidRings A1 cap1 rs _ H.out (by omega) Hs.out).mono ?_
    rw [Hd.out]
    rintro e w4 ⟨rfl, hb⟩
    replace E := Lib.hid (Ext.trans E.out hb)
    replace H := Lib.hid (H.out.ext rgR_stab hb)
    clear hb
    cases d
    · go_wp2_with fail
      refine (c_sAreaOf A1 cap1 rs _ H.out (by omega) Hs.out).mono ?_
      rw [HS.out]
      rintro e w5 ⟨rfl, hb⟩
      replace E := Lib.hid (Ext.trans E.out hb)
      replace H := Lib.hid (H.out.ext rgR_stab hb)
      clear hb
      go_wp2
      go_ret
      exact ⟨rfl, E.out⟩

    · have HS2 : Hid (S = sumS areaE rs) := Lib.hid (by rw [← HS.out]; unfold areaR; rw [Hd.out]; rfl)
      have hr := rgsB_iff.1 Hd.out
      have hr8 : rs.length ≤ 8 := hr.2.1
      have hcs : corners rs ≤ 200 := hr.2.2
      have hsb : -1000000000000 ≤ S ∧ S ≤ 1000000000000 := by
        have := sumS_bd (f := areaE) (rs := rs) (B := 320000000) (fun r hq => by have := sumE_bd40 (f := areaE) (B := 8000000) (fun a ha b hb => areaE_bd (crd2_of (hr.1 r hq).2 ha) (crd2_of (hr.1 r hq).2 hb)) (by omega) (hr.1 r hq).2; omega) (by omega) (k := rs.length) (by omega)
        rw [List.take_length, ← HS2.out] at this; omega
      have Hr := Lib.hid hr.1
      clear hr
      have K := Lib.hid (fun W (hW : Rgs W A1 rs) => c_movedR A1 cap1 rs (-7) 11 W hW (by omega) (by omega) Hr.out (by omega) (by omega))
      obtain ⟨ok, hok⟩ : ∃ ok, movedOk (-7) 11 rs = ok := ⟨_, rfl⟩
      have hmr : movedR (-7) 11 rs = if ok then (rs.map (moveL (-7) 11), true) else ([], false) := by unfold movedR; rw [hok]
      rw [hmr] at K
      clear hmr
      have Hok := Lib.hid hok
      clear hok
      cases ok
      · simp only [Bool.false_eq_true, if_false] at K
        go_wp2_with fail
        refine (K.out _ H.out).mono ?_
        rintro e w5 ⟨A2, cap2, s2, rfl, ho2, hb⟩
        replace E := Lib.hid (Ext.trans E.out hb)
        replace H := Lib.hid (H.out.ext rgR_stab hb)
        clear hb
        go_wp2
        go_ret
        exact ⟨rfl, E.out⟩
      · simp only [if_true] at K
        go_wp2_with fail
        refine (K.out _ H.out).mono ?_
        rintro e w5 ⟨A2, cap2, s2, rfl, ho2, hb⟩
        replace E := Lib.hid (Ext.trans E.out hb)
        replace H := Lib.hid (H.out.ext rgR_stab hb)
        clear hb
        have O2 := Lib.hid (ho2)
        clear ho2
        have Hv2 : Hid (areaR (rs.map (moveL (-7) 11)) = S) := Lib.hid (by
          unfold areaR
          rw [rgsB_moved Hd.out Hok.out, HS2.out]
          exact sumS_move (-7) 11 rs)
        have hl2 : (rs.map (moveL (-7) 11)).length ≤ 8 := by simp; omega
        have Hs2 : Hid (∀ r ∈ rs.map (moveL (-7) 11), r.length ≤ 1000000000) := Lib.hid (fun r hr => by
          obtain ⟨q, hq, rfl⟩ := List.mem_map.1 hr
          unfold moveL; rw [List.length_map]; exact Hs.out q hq)
        generalize rs.map (moveL (-7) 11) = rv at *
        go_wp2_with fail
        refine (c_iAreaOf A2 cap2 rv _ O2.out.in_ (by omega) Hs2.out).mono ?_
        rw [Hv2.out]
        rintro e w6 ⟨rfl, hb⟩
        replace E := Lib.hid (Ext.trans E.out hb)
        replace H := Lib.hid (H.out.ext rgR_stab hb)
        replace O2 := Lib.hid (O2.out.ext hb)
        clear hb
        go_wp2
        go_ret
        exact ⟨rfl, E.out⟩
  · have hnI : (1048576 : Int) < (bs.length : Int) := by omega
    clear h
    go_enter Try.func7, Try.ntmps7
    go_wp2
    go_ret
    exact ⟨rfl, Below.refl _ _⟩

theorem opens0 : Opens Try.prog 34 (slR byteR 1 ) :=  opens_slice Try.underlying34 (by kernel_rfl) (by decide) (opens_byte Try.underlying5)
set_option maxRecDepth 100000 in
theorem lifted (os : Os) (started : os.Started) (H : Type) (enc : TypeId × Value → H) :
    ReturnsInHanded {} Try.checked os 7 .any (Rows.fnAreaOfMoveSpec.pre6 enc Try.prog Try.f7 Rows.fnAreaOfMoveRow.domain false) (Rows.fnAreaOfMoveSpec.post enc Try.prog Try.f7 false true false false) := by
  refine returnsInHanded_of_change (C := Try.checked) own started (by kernel_rfl) Try.func7
    (ChangeSpec.witness6 (enc := enc) (C := Try.checked) false ⟨#[], #[.slice none 0 0], []⟩ 8 (by kernel_rfl) (by kernel_rfl) (by kernel_rfl) (by kernel_rfl)) ?_
  intro W base args ds gs before hval0 hW hcnd _
  have hval : ∀ (j : Nat) t v, Try.f7.params[j]? = some t → args[j]? = some v → Value.okWide Try.prog W .any base t v := hval0
  have hW' := hW
  obtain ⟨p, q, hA0, hV, rfl, hfz, hnd⟩ := hW
  have hA : DataW.TrodAll enc Try.prog W 0 (fun _ => true) true Try.f7.params.toList args.toList ds p := hA0
  rw [Try.params7] at hA hval
  obtain ⟨v0, vs0, d0, ds0, p0, q0, hargs, rfl, rfl, h0, r0⟩ := trodAll_cons hA
  obtain ⟨rfl, rfl, rfl⟩ := trodAll_nil r0
  obtain rfl : args = #[v0] := by cases args; simp_all
  obtain ⟨rfl, rfl, rfl⟩ := trodVars_none hV
  obtain ⟨a0, len0, cap0, rfl⟩ := okWide_slice Try.underlying34 (hval 0 34 v0 rfl rfl)
  have k0 := h0
  have lt0 : ∀ x ∈ p0, x.block < W.heap.size := by obtain ⟨m, hm⟩ := k0; exact DataW.trod_lt m _ _ _ hm
  obtain ⟨xs0, rfl, w0, wl0, wc0⟩ := open_arg rfl opens0 h0
  clear hA0 hval0
  refine (walk a0 cap0 xs0 W w0 wl0 wc0).mono fun e W' ⟨he, bel⟩ => ?_
  subst he
  exact ⟨_, rfl, _, _, _, [], _, [], hW', trodAll_mk1 (shut_bool Try.underlying4 _), (trodAll_cons_mk (Below.trod laidOut (by kernel_rfl) (of_decide_eq_true (by kernel_rfl)) k0 bel lt0) trodAll_mk0), rfl, bel.frame _, fun h => by cases h⟩
theorem over : Rows.fnAreaOfMoveRow.holds Try.pinned (OpenSpec.ofChange Rows.fnAreaOfMoveSpec) :=
  OpenClaim.holds_of_wide 7 Try.f7 rfl rfl rfl rfl rfl rfl rfl ⟨rfl, rfl, rfl, rfl, rfl⟩ rfl rfl rfl rfl rfl (by kernel_rfl) Try.func7 (by kernel_rfl)
    (of_decide_eq_true (by kernel_rfl)) (by unfold Func.isWrapper; first | (rw [if_pos (by decide +kernel)]; kernel_rfl) | (rw [if_neg (by decide +kernel)]; exact ⟨rfl, rfl⟩))
    (fun os started H enc _ => lifted os started H enc)

theorem proved : Rows.FnAreaOfMoveSaid := over

end Go.Proofs.Yteankmkhieckbaa.fnAreaOfMove

