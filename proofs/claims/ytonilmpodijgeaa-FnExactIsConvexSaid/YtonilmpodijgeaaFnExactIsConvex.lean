/- IsConvex of the program and IsConvex of the reference return the same for every polygon, and the argument is left as it was. -/
import Derived.Test.YtonilmpodijgeaaConvW
import Derived.Test.YtonilmpodijgeaaConvI
import Derived.Test.YtonilmpodijgeaaConvE
import Derived.Test.YtonilmpodijgeaaOpen
namespace Go.Proofs.Ytonilmpodijgeaa.fnExactIsConvex
open Go Go.RowKit Go.ChangeShapes Go.WideShapes Go.ChangeAt Go.Deep Reg

theorem own : ownKnob Try.prog.godebug = none := by kernel_rfl
theorem laidOut : laidOutB Try.prog = true := by kernel_rfl
theorem opensArg : Opens Try.prog 22 (slR ptR 2) :=
  opens_slice Try.underlying22 (by kernel_rfl) (by decide) (opens_pt Try.underlying40 (by kernel_rfl) (by kernel_rfl) (by kernel_rfl) (by kernel_rfl) (by kernel_rfl) (by kernel_rfl) (by kernel_rfl))

set_option maxHeartbeats 1000000 in
theorem walk (A : Option Addr) (cap : Nat) (ps : List Pt) (w : World) (h : Pts w A ps) (hl : ps.length ≤ maxLen) :
    Calls Try.prog 3 #[.slice A ps.length cap] w fun e w' => e = .returned (.bool true) ∧ Below w.heap.size w w' := by
  unfold maxLen at hl
  by_cases hn : ps.length ≤ 1048576
  · have hs : (if (1048576 : Int) - ps.length < 0 then (-1 : Int) else 1048576 - ps.length) = 1048576 - ps.length := if_neg (by omega)
    have Hs := Lib.hid hs
    have Hq := Lib.hid (convex_eq ps)
    clear hs
    go_enter Try.func3, Try.ntmps3
    go_wp2_with fail
    refine (c_szPointS A ps.length cap 1048576 w (by omega) (by omega) (by omega)).mono ?_; rw [Hs.out]; rintro e w0 ⟨rfl, rfl⟩
    go_wp2_with fail
    refine (c_toPointS A cap ps w h hn).mono ?_; rintro e w1 ⟨b1, rfl, _, hr1, hb1⟩
    have i1 : Pts w1 (some ⟨b1, 0, none⟩) ps := Row.in_ (rest := []) (enc := ptC) ptC_len (by simpa using hr1) (fun _ _ => rfl)
    go_wp2_with fail
    refine (c_specIsConvex _ _ ps w1 i1 (by omega)).mono ?_; rintro e w2 ⟨rfl, hb2⟩
    have e2 := Ext.trans hb1 hb2
    go_wp2_with fail
    refine (c_toPointS A cap ps w2 (h.ext ptR_stab e2) hn).mono ?_; rintro e w3 ⟨b3, rfl, _, hr3, hb3⟩
    have i3 : Pts w3 (some ⟨b3, 0, none⟩) ps := Row.in_ (rest := []) (enc := ptC) ptC_len (by simpa using hr3) (fun _ _ => rfl)
    have e3 := Ext.trans e2 hb3
    go_wp2_with fail
    refine (c_implIsConvex _ _ ps w3 i3 (by omega)).mono ?_; rw [← Hq.out]; rintro e w4 ⟨rfl, hb4⟩
    have e4 := Ext.trans e3 hb4
    have i4 := i3.ext ptR_stab hb4
    clear i1 i3 hr1 hr3
    go_wp2_with fail
    refine (c_toPointS A cap ps w4 (h.ext ptR_stab e4) hn).mono ?_; rintro e w5 ⟨b5, rfl, _, hr5, hb5⟩
    have i5 : Pts w5 (some ⟨b5, 0, none⟩) ps := Row.in_ (rest := []) (enc := ptC) ptC_len (by simpa using hr5) (fun _ _ => rfl)
    have i4' := i4.ext ptR_stab hb5
    clear hr5
    go_wp2_with fail
    refine (c_eqPointS _ _ _ _ ps ps w5 i4' i5 (by omega) (by omega)).mono ?_; rintro e w6 ⟨rfl, hb6⟩
    go_wp2
    go_ret
    exact ⟨rfl, Ext.trans (Ext.trans e4 hb5) hb6⟩
  · have hs : (if (1048576 : Int) - ps.length < 0 then (-1 : Int) else 1048576 - ps.length) = -1 := if_pos (by omega)
    have Hs := Lib.hid hs
    clear hs
    go_enter Try.func3, Try.ntmps3
    go_wp2_with fail
    refine (c_szPointS A ps.length cap 1048576 w (by omega) (by omega) (by omega)).mono ?_; rw [Hs.out]; rintro e w0 ⟨rfl, rfl⟩
    go_wp2
    go_ret
    exact ⟨rfl, Below.refl _ _⟩

set_option maxRecDepth 100000 in
theorem lifted (os : Os) (started : os.Started) (H : Type) (enc : TypeId × Value → H) :
    ReturnsInHanded {} Try.checked os 3 .any (Rows.fnExactIsConvexSpec.pre6 enc Try.prog Try.f3 Rows.fnExactIsConvexRow.domain false) (Rows.fnExactIsConvexSpec.post enc Try.prog Try.f3 false true false false) := by
  refine returnsInHanded_of_change (C := Try.checked) own started (by kernel_rfl) Try.func3
    (ChangeSpec.witness6 (enc := enc) (C := Try.checked) false ⟨#[], #[.slice none 0 0], []⟩ 8 (by kernel_rfl) (by kernel_rfl) (by kernel_rfl) (by kernel_rfl)) ?_
  intro W base args ds gs before hval0 hW hcnd _
  have hval : ∀ (j : Nat) t v, Try.f3.params[j]? = some t → args[j]? = some v → Value.okWide Try.prog W .any base t v := hval0
  have hW' := hW
  obtain ⟨p, q, hA0, hV, rfl, hfz, hnd⟩ := hW
  have hA : DataW.TrodAll enc Try.prog W 0 (fun _ => true) true Try.f3.params.toList args.toList ds p := hA0
  rw [Try.params3] at hA hval
  obtain ⟨v0, vs0, d0, ds0, p0, q0, hargs, rfl, rfl, h0, r0⟩ := trodAll_cons hA
  obtain ⟨rfl, rfl, rfl⟩ := trodAll_nil r0
  obtain rfl : args = #[v0] := by cases args; simp_all
  obtain ⟨rfl, rfl⟩ := trodVars_none hV
  obtain ⟨a0, len0, cap0, rfl⟩ := okWide_slice Try.underlying22 (hval 0 22 v0 rfl rfl)
  have k0 := h0
  have lt0 : ∀ x ∈ p0, x.block < W.heap.size := by obtain ⟨m, hm⟩ := k0; exact DataW.trod_lt m _ _ _ hm
  obtain ⟨ps, rfl, w0, wl0⟩ := open_arg rfl opensArg h0
  clear hA0 hval0
  refine (walk a0 cap0 ps W w0 wl0).mono fun e W' ⟨he, bel⟩ => ?_
  subst he
  exact ⟨_, rfl, _, _, _, [], _, [], hW', trodAll_mk1 (shut_bool Try.underlying4 _), (trodAll_cons_mk (Below.trod laidOut (by kernel_rfl) (of_decide_eq_true (by kernel_rfl)) k0 bel lt0) trodAll_mk0), rfl, bel.frame _, fun h => by cases h⟩

theorem over : Rows.fnExactIsConvexRow.holds Try.pinned (OpenSpec.ofChange Rows.fnExactIsConvexSpec) :=
  OpenClaim.holds_of_wide 3 Try.f3 rfl rfl rfl rfl rfl rfl rfl ⟨rfl, rfl, rfl, rfl, rfl⟩ rfl rfl rfl rfl rfl (by kernel_rfl) Try.func3 (by kernel_rfl)
    (of_decide_eq_true (by kernel_rfl)) (by unfold Func.isWrapper; first | (rw [if_pos (by decide +kernel)]; kernel_rfl) | (rw [if_neg (by decide +kernel)]; exact ⟨rfl, rfl⟩))
    (fun os started H enc _ => lifted os started H enc)

theorem proved : Rows.FnExactIsConvexSaid := over
end Go.Proofs.Ytonilmpodijgeaa.fnExactIsConvex
