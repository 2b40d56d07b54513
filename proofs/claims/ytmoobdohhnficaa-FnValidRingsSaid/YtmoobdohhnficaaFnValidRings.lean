/- What valid polygons begin with is valid, whatever the bytes that the polygons are drawn from. -/
import Derived.Test.YtmoobdohhnficaaGenV
import Derived.Test.YtmoobdohhnficaaSlice
import Derived.Test.YtmoobdohhnficaaOpen
namespace Go.Proofs.Ytmoobdohhnficaa.fnValidRings
open Go Go.RowKit Go.ChangeShapes Go.WideShapes Go.ChangeAt Go.Deep Reg
attribute [local go_sem] calmAt calmUpon

theorem own : ownKnob Try.prog.godebug = none := by kernel_rfl
theorem laidOut : laidOutB Try.prog = true := by kernel_rfl
theorem rgsB_take {rs : List Rg} (h : rgsB rs = true) (k : Nat) : rgsB (rs.take k) = true := by
  rw [rgsB_iff] at *
  refine ⟨fun r hr => h.1 r (List.mem_of_mem_take hr), by rw [List.length_take]; omega, ?_⟩
  have := corners_append (rs.take k) (rs.drop k)
  rw [List.take_append_drop] at this
  omega

set_option maxRecDepth 100000 in
set_option maxHeartbeats 4000000 in
theorem walk (A : Option Addr) (cap : Nat) (bs : List Int) (w : World) (h : In byteR 1 w A bs) (hlc : bs.length ≤ cap) (hcm : cap ≤ maxLen) :
    Calls Try.prog 3 #[.slice A bs.length cap] w fun e w' => e = .returned (.bool true) ∧ Below w.heap.size w w' := by
  unfold maxLen at hcm
  by_cases hn : bs.length ≤ 1048576
  · have hnI : ¬ (1048576 : Int) < (bs.length : Int) := by omega
    have E := Lib.hid (Below.refl w.heap.size w)
    go_enter Try.func3, Try.ntmps3
    go_wp2_with fail
    refine (c_DrawValidRings A cap bs w h hlc (by omega)).mono ?_
    rintro e w1 ⟨A1, cap1, rs, rfl, hal, hcap, hrs, hb⟩
    replace E := Lib.hid (Ext.trans E.out hb)
    clear hb
    have H := Lib.hid (hrs)
    clear hrs
    have hrl := hal.1
    have Hs : Hid (∀ r ∈ rs, r.length ≤ 1000000000) := Lib.hid (fun r hr => by have := (hal.2 r hr).1; omega)
    clear h hn hal
    obtain ⟨d, hd⟩ : ∃ d, rgsB rs = d := ⟨_, rfl⟩
    have Hd := Lib.hid hd
    clear hd
    go_wp2_with fail
    refine (c_iValidRings A1 cap1 rs _ H.out (by omega) Hs.out).mono ?_
    rw [Hd.out]
    rintro e w2 ⟨rfl, hb⟩
    replace E := Lib.hid (Ext.trans E.out hb)
    replace H := Lib.hid (H.out.ext rgR_stab hb)
    clear hb
    go_wp2_with fail
    refine (c_sValidRingsX A1 cap1 rs _ H.out (by omega) Hs.out).mono ?_
    rw [Hd.out]
    rintro e w3 ⟨rfl, hb⟩
    replace E := Lib.hid (Ext.trans E.out hb)
    replace H := Lib.hid (H.out.ext rgR_stab hb)
    clear hb
    cases d
    · go_wp2_with fail
      refine (c_sValidRingsX A1 cap1 rs _ H.out (by omega) Hs.out).mono ?_
      rw [Hd.out]
      rintro e w4 ⟨rfl, hb⟩
      replace E := Lib.hid (Ext.trans E.out hb)
      replace H := Lib.hid (H.out.ext rgR_stab hb)
      clear hb
      go_wp2
      go_ret
      exact ⟨rfl, E.out⟩
    · by_cases h0 : rs.length = 0
      · have hb0 : (((rs.length : Nat) : Int) == 0) = true := by simp; exact List.eq_nil_of_length_eq_zero h0
        clear h0
        go_wp2_with fail
        refine (c_sValidRingsX A1 cap1 rs _ H.out (by omega) Hs.out).mono ?_
        rw [Hd.out]
        rintro e w4 ⟨rfl, hb⟩
        replace E := Lib.hid (Ext.trans E.out hb)
        replace H := Lib.hid (H.out.ext rgR_stab hb)
        clear hb
        go_wp2
        go_ret
        exact ⟨rfl, E.out⟩
      · have hb0 : (((rs.length : Nat) : Int) == 0) = false := by simp; intro hh; subst hh; simp at h0
        have hs1 : ∀ W, (Instr.slice 23 (.slice A1 rs.length cap1) none (some (.int .i64 ((rs.length : Int) - 1))) none).run Try.prog W = .ok (.slice A1 (rs.length - 1) cap1) W := fun W => run_slice_hi ei_rg _ _ _ (rs.length - 1) _ (by omega) (by omega) W
        have hp1 : 1 ≤ rs.length := by omega
        have hlen : (rs.take (rs.length - 1)).length = rs.length - 1 := by rw [List.length_take]; omega
        have Hok := Lib.hid (rgsB_take Hd.out (rs.length - 1))
        have Hs2 : Hid (∀ r ∈ rs.take (rs.length - 1), r.length ≤ 1000000000) := Lib.hid (fun v hv => Hs.out v (List.mem_of_mem_take hv))
        have V4 : Hid (Rgs w3 A1 (rs.take (rs.length - 1))) := Lib.hid (H.out.take _)
        have hq := c_iValidRings A1 cap1 (rs.take (rs.length - 1)) w3 V4.out (by omega) Hs2.out
        rw [hlen, Hok.out] at hq
        have Hq := Lib.hid hq
        clear h0 hlen hq
        go_wp2_with fail
        refine (Hq.out).mono ?_
        rintro e w4 ⟨rfl, hb⟩
        replace E := Lib.hid (Ext.trans E.out hb)
        replace H := Lib.hid (H.out.ext rgR_stab hb)
        clear hb
        go_wp2
        go_ret
        exact ⟨rfl, E.out⟩
  · have hnI : (1048576 : Int) < (bs.length : Int) := by omega
    clear h
    go_enter Try.func3, Try.ntmps3
    go_wp2
    go_ret
    exact ⟨rfl, Below.refl _ _⟩

theorem opens0 : Opens Try.prog 22 (slR byteR 1 ) :=  opens_slice Try.underlying22 (by kernel_rfl) (by decide) (opens_byte Try.underlying5)
set_option maxRecDepth 100000 in
theorem lifted (os : Os) (started : os.Started) (H : Type) (enc : TypeId × Value → H) :
    ReturnsInHanded {} Try.checked os 3 .any (Rows.fnValidRingsSpec.pre6 enc Try.prog Try.f3 Rows.fnValidRingsRow.domain false) (Rows.fnValidRingsSpec.post enc Try.prog Try.f3 false true false false) := by
  refine returnsInHanded_of_change (C := Try.checked) own started (by kernel_rfl) Try.func3
    (ChangeSpec.witness6 (enc := enc) (C := Try.checked) false ⟨#[], #[.slice none 0 0], []⟩ 8 (by kernel_rfl) (by kernel_rfl) (by kernel_rfl) (by kernel_rfl)) ?_
  intro W base args ds gs before hval0 hW hcnd _
  have hval : ∀ (j : Nat) t v, Try.f3.params[j]? = some t → args[j]? = some v → Value.okWide Try.prog W .any base t v := hval0
  have hW' := hW
  obtain ⟨p, q, hA0, hV, rfl, hfz, hnd⟩ := hW
  have hA : DataW.TrodAll enc Try.prog W 0 (fun _ => true) true Try.f3.params.toList args.toList ds p := hA0
  rw [Try.params3] at hA hval
  obtain ⟨v0, vs0, d0, ds0, p0, q0, hargs, rfl, rfl, h0, r0⟩ := trodAll_cons hA
  obtain ⟨rfl, rfl, rfl⟩ := trodAll_nil r0
  obtain rfl : args = #[v0] := by cases args; simp_all
  obtain ⟨rfl, rfl, rfl⟩ := trodVars_none hV
  obtain ⟨a0, len0, cap0, rfl⟩ := okWide_slice Try.underlying22 (hval 0 22 v0 rfl rfl)
  have k0 := h0
  have lt0 : ∀ x ∈ p0, x.block < W.heap.size := by obtain ⟨m, hm⟩ := k0; exact DataW.trod_lt m _ _ _ hm
  obtain ⟨xs0, rfl, w0, wl0, wc0⟩ := open_arg rfl opens0 h0
  clear hA0 hval0
  refine (walk a0 cap0 xs0 W w0 wl0 wc0).mono fun e W' ⟨he, bel⟩ => ?_
  subst he
  exact ⟨_, rfl, _, _, _, [], _, [], hW', trodAll_mk1 (shut_bool Try.underlying4 _), (trodAll_cons_mk (Below.trod laidOut (by kernel_rfl) (of_decide_eq_true (by kernel_rfl)) k0 bel lt0) trodAll_mk0), rfl, bel.frame _, fun h => by cases h⟩
theorem over : Rows.fnValidRingsRow.holds Try.pinned (OpenSpec.ofChange Rows.fnValidRingsSpec) :=
  OpenClaim.holds_of_wide 3 Try.f3 rfl rfl rfl rfl rfl rfl rfl ⟨rfl, rfl, rfl, rfl, rfl⟩ rfl rfl rfl rfl rfl (by kernel_rfl) Try.func3 (by kernel_rfl)
    (of_decide_eq_true (by kernel_rfl)) (by unfold Func.isWrapper; first | (rw [if_pos (by decide +kernel)]; kernel_rfl) | (rw [if_neg (by decide +kernel)]; exact ⟨rfl, rfl⟩))
    (fun os started H enc _ => lifted os started H enc)

theorem proved : Rows.FnValidRingsSaid := over

end Go.Proofs.Ytmoobdohhnficaa.fnValidRings

