/- What a valid path begins with is a valid path, whatever the bytes that the path is drawn from. -/
import Derived.Test.YtonilmpodijgeaaAPath
import Derived.Test.YtonilmpodijgeaaPath
import Derived.Test.YtonilmpodijgeaaOpen
namespace Go.Proofs.Ytonilmpodijgeaa.fnValidPath
open Go Go.RowKit Go.ChangeShapes Go.WideShapes Go.ChangeAt Go.Deep Reg

theorem own : ownKnob Try.prog.godebug = none := by kernel_rfl
theorem laidOut : laidOutB Try.prog = true := by kernel_rfl

set_option maxRecDepth 100000 in
set_option maxHeartbeats 4000000 in
theorem walk (A : Option Addr) (cap : Nat) (bs : List Int) (w : World) (h : In byteR 1 w A bs) (hlc : bs.length ≤ cap) (hcm : cap ≤ maxLen) :
    Calls Try.prog 9 #[.slice A bs.length cap] w fun e w' => e = .returned (.bool true) ∧ Below w.heap.size w w' := by
  unfold maxLen at hcm
  by_cases hn : bs.length ≤ 1048576
  · have hnI : ¬ (1048576 : Int) < (bs.length : Int) := by omega
    go_enter Try.func9, Try.ntmps9
    go_wp2_with fail
    refine (c_DrawValidPath A cap bs w h hlc (by omega)).mono ?_
    rintro e w1 ⟨A1, cap1, vs, ss, rfl, hall, hl, ho1, hb1⟩
    have O1 := Lib.hid ho1
    have E1 := Lib.hid hb1
    have Hall : Hid (∀ v ∈ vs, v.2.length ≤ 1000000000) := Lib.hid (fun v hv => Nat.le_trans (hall v hv) (by decide))
    have V1 : Hid (Vbs w1 A1 vs) := Lib.hid O1.out.in_
    have hcap := O1.out.out.slok.2.1
    clear ho1 hb1 h hn hall
    obtain ⟨d, hd⟩ : ∃ d, d = pathOk vs := ⟨_, rfl⟩
    have Hd := Lib.hid hd
    clear hd
    go_wp2_with fail
    refine (c_iValidPath A1 cap1 vs w1 V1.out (by omega) Hall.out).mono ?_; rw [← Hd.out]; rintro e w2 ⟨rfl, hb2⟩
    have E2 := Lib.hid (Ext.trans E1.out hb2)
    have V2 := Lib.hid (V1.out.ext verbR_stab hb2)
    clear hb2
    go_wp2_with fail
    refine (c_sValidPathX A1 cap1 vs w2 V2.out (by omega) Hall.out).mono ?_; rw [← Hd.out]; rintro e w3 ⟨rfl, hb3⟩
    have E3 := Lib.hid (Ext.trans E2.out hb3)
    have V3 := Lib.hid (V2.out.ext verbR_stab hb3)
    clear hb3
    cases d
    · go_wp2_with fail
      refine (c_sValidPathX A1 cap1 vs w3 V3.out (by omega) Hall.out).mono ?_; rw [← Hd.out]; rintro e w4 ⟨rfl, hb4⟩
      have E4 := Lib.hid (Ext.trans E3.out hb4)
      clear hb4
      go_wp2
      go_ret
      exact ⟨rfl, E4.out⟩
    · by_cases h0 : vs.length = 0
      · have hb : (((vs.length : Nat) : Int) == 0) = true := by simp; exact List.eq_nil_of_length_eq_zero h0
        clear h0
        go_wp2_with fail
        refine (c_sValidPathX A1 cap1 vs w3 V3.out (by omega) Hall.out).mono ?_; rw [← Hd.out]; rintro e w4 ⟨rfl, hb4⟩
        have E4 := Lib.hid (Ext.trans E3.out hb4)
        clear hb4
        go_wp2
        go_ret
        exact ⟨rfl, E4.out⟩
      · have hb : (((vs.length : Nat) : Int) == 0) = false := by simp; intro hh; subst hh; simp at h0
        have hs1 : ∀ W, (Instr.slice 31 (.slice A1 vs.length cap1) none (some (.int .i64 ((vs.length : Int) - 1))) none).run Try.prog W = .ok (.slice A1 (vs.length - 1) cap1) W := fun W => run_slice_hi ei_vb _ _ _ (vs.length - 1) _ (by omega) (by omega) W
        have hp1 : 1 ≤ vs.length := by omega
        have hlen : (vs.take (vs.length - 1)).length = vs.length - 1 := by rw [List.length_take]; omega
        have Hlen := Lib.hid hlen
        have Hok := Lib.hid (pathOk_take Hd.out.symm (vs.length - 1) (by omega))
        have Hall2 : Hid (∀ v ∈ vs.take (vs.length - 1), v.2.length ≤ 1000000000) := Lib.hid (fun v hv => Hall.out v (List.mem_of_mem_take hv))
        have V4 : Hid (Vbs w3 A1 (vs.take (vs.length - 1))) := Lib.hid (V3.out.take _)
        have hq := c_iValidPath A1 cap1 (vs.take (vs.length - 1)) w3 V4.out (by omega) Hall2.out
        rw [Hlen.out, Hok.out] at hq
        have Hq := Lib.hid hq
        clear h0 hlen hq
        go_wp2_with fail
        refine Hq.out.mono ?_; rintro e w4 ⟨rfl, hb4⟩
        have E4 := Lib.hid (Ext.trans E3.out hb4)
        clear hb4
        go_wp2
        go_ret
        exact ⟨rfl, E4.out⟩
  · have hnI : (1048576 : Int) < (bs.length : Int) := by omega
    go_enter Try.func9, Try.ntmps9
    go_wp2
    go_ret
    exact ⟨rfl, Below.refl _ _⟩

theorem opens0 : Opens Try.prog 47 (slR byteR 1 ) :=  opens_slice Try.underlying47 (by kernel_rfl) (by decide) (opens_byte Try.underlying5)
set_option maxRecDepth 100000 in
theorem lifted (os : Os) (started : os.Started) (H : Type) (enc : TypeId × Value → H) :
    ReturnsInHanded {} Try.checked os 9 .any (Rows.fnValidPathSpec.pre6 enc Try.prog Try.f9 Rows.fnValidPathRow.domain false) (Rows.fnValidPathSpec.post enc Try.prog Try.f9 false true false false) := by
  refine returnsInHanded_of_change (C := Try.checked) own started (by kernel_rfl) Try.func9
    (ChangeSpec.witness6 (enc := enc) (C := Try.checked) false ⟨#[], #[.slice none 0 0], []⟩ 8 (by kernel_rfl) (by kernel_rfl) (by kernel_rfl) (by kernel_rfl)) ?_
  intro W base args ds gs before hval0 hW hcnd _
  have hval : ∀ (j : Nat) t v, Try.f9.params[j]? = some t → args[j]? = some v → Value.okWide Try.prog W .any base t v := hval0
  have hW' := hW
  obtain ⟨p, q, hA0, hV, rfl, hfz, hnd⟩ := hW
  have hA : DataW.TrodAll enc Try.prog W 0 (fun _ => true) true Try.f9.params.toList args.toList ds p := hA0
  rw [Try.params9] at hA hval
  obtain ⟨v0, vs0, d0, ds0, p0, q0, hargs, rfl, rfl, h0, r0⟩ := trodAll_cons hA
  obtain ⟨rfl, rfl, rfl⟩ := trodAll_nil r0
  obtain rfl : args = #[v0] := by cases args; simp_all
  obtain ⟨rfl, rfl, rfl⟩ := trodVars_none hV
  obtain ⟨a0, len0, cap0, rfl⟩ := okWide_slice Try.underlying47 (hval 0 47 v0 rfl rfl)
  have k0 := h0
  have lt0 : ∀ x ∈ p0, x.block < W.heap.size := by obtain ⟨m, hm⟩ := k0; exact DataW.trod_lt m _ _ _ hm
  obtain ⟨xs0, rfl, w0, wl0, wc0⟩ := open_arg rfl opens0 h0
  clear hA0 hval0
  refine (walk a0 cap0 xs0 W w0 wl0 wc0).mono fun e W' ⟨he, bel⟩ => ?_
  subst he
  exact ⟨_, rfl, _, _, _, [], _, [], hW', trodAll_mk1 (shut_bool Try.underlying4 _), (trodAll_cons_mk (Below.trod laidOut (by kernel_rfl) (of_decide_eq_true (by kernel_rfl)) k0 bel lt0) trodAll_mk0), rfl, bel.frame _, fun h => by cases h⟩
theorem over : Rows.fnValidPathRow.holds Try.pinned (OpenSpec.ofChange Rows.fnValidPathSpec) :=
  OpenClaim.holds_of_wide 9 Try.f9 rfl rfl rfl rfl rfl rfl rfl ⟨rfl, rfl, rfl, rfl, rfl⟩ rfl rfl rfl rfl rfl (by kernel_rfl) Try.func9 (by kernel_rfl)
    (of_decide_eq_true (by kernel_rfl)) (by unfold Func.isWrapper; first | (rw [if_pos (by decide +kernel)]; kernel_rfl) | (rw [if_neg (by decide +kernel)]; exact ⟨rfl, rfl⟩))
    (fun os started H enc _ => lifted os started H enc)

theorem proved : Rows.FnValidPathSaid := over

end Go.Proofs.Ytonilmpodijgeaa.fnValidPath
