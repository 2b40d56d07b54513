/- The winding of polygons is the sum of the windings of each, whatever the bytes that the polygons and the point are drawn from. -/
import Derived.Test.YteankmkhieckbaaWindX
import Derived.Test.YteankmkhieckbaaOpen
namespace Go.Proofs.Yteankmkhieckbaa.fnWindingAt
open Go Go.RowKit Go.ChangeShapes Go.WideShapes Go.ChangeAt Go.Deep Reg
attribute [local go_sem] calmAt calmUpon

theorem own : ownKnob Try.prog.godebug = none := by kernel_rfl
theorem laidOut : laidOutB Try.prog = true := by kernel_rfl

set_option maxRecDepth 100000 in
set_option maxHeartbeats 8000000 in
theorem walk (A : Option Addr) (cap : Nat) (bs : List Int) (w : World) (h : In byteR 1 w A bs) (hlc : bs.length ≤ cap) (hcm : cap ≤ maxLen) :
    Calls Try.prog 8 #[.slice A bs.length cap] w fun e w' => e = .returned (.bool true) ∧ Below w.heap.size w w' := by
  unfold maxLen at hcm
  by_cases hn : bs.length ≤ 1048576
  · have hnI : ¬ (1048576 : Int) < (bs.length : Int) := by omega
    have K0 := Lib.hid (c_DrawWindingAt A cap bs w h hlc (by omega))
    clear h hn
    go_enter Try.func8, Try.ntmps8
    go_wp2_with fail
    refine K0.out.mono ?_
    rintro e w1 ⟨A1, cap1, rs, x, y, rfl, hal, hcap, hxy, hrs, hb⟩
    have E := Lib.hid hb
    have H := Lib.hid hrs
    have hrl := hal.1
    have hc300 : corners rs ≤ 300 * rs.length := corners_le300 (fun r hr => (hal.2 r hr).1)
    have Hs : Hid (∀ r ∈ rs, r.length ≤ 1000000000) := Lib.hid (fun r hr => by have := (hal.2 r hr).1; omega)
    obtain ⟨⟨hx1, hx2⟩, hy1, hy2⟩ := hxy
    dsimp only at hx1 hx2 hy1 hy2
    clear hb hrs hal K0
    obtain ⟨S, hS⟩ : ∃ S, windR rs x y = S := ⟨_, rfl⟩
    have HS := Lib.hid hS
    clear hS
    go_wp2_with fail
    refine (c_iWindingAt A1 cap1 rs x y _ H.out (by omega) Hs.out).mono ?_
    rw [HS.out]
    rintro e w2 ⟨rfl, hb⟩
    replace E := Lib.hid (Ext.trans E.out hb)
    replace H := Lib.hid (H.out.ext rgR_stab hb)
    clear hb
    go_wp2_with fail
    refine (c_sWindingAt A1 cap1 rs x y _ H.out (by omega) Hs.out).mono ?_
    rw [HS.out]
    rintro e w3 ⟨rfl, hb⟩
    replace E := Lib.hid (Ext.trans E.out hb)
    replace H := Lib.hid (H.out.ext rgR_stab hb)
    clear hb

    obtain ⟨d, hd⟩ : ∃ d, rgsB rs = d := ⟨_, rfl⟩
    have Hd := Lib.hid hd
    clear hd
    go_wp2_with fail
    refine (c_iValidRings A1 cap1 rs _ H.out (by omega) Hs.out).mono ?_
    rw [Hd.out]
    rintro e w4 ⟨rfl, hb⟩
    replace E := Lib.hid (Ext.trans E.out hb)
    replace H := Lib.hid (H.out.ext rgR_stab hb)
    clear hb
    cases d
    · go_wp2_with fail
      refine (c_sWindingAt A1 cap1 rs x y _ H.out (by omega) Hs.out).mono ?_
      rw [HS.out]
      rintro e w5 ⟨rfl, hb⟩
      replace E := Lib.hid (Ext.trans E.out hb)
      replace H := Lib.hid (H.out.ext rgR_stab hb)
      clear hb
      go_wp2
      go_ret
      exact ⟨rfl, E.out⟩

    · have HS2 : Hid (S = sumS (stepX x y) rs) := Lib.hid (by rw [← HS.out]; exact windR_eq Hd.out x y)
      have hr := rgsB_iff.1 Hd.out
      have Hr := Lib.hid hr.1
      have hr8 : rs.length ≤ 8 := hr.2.1
      clear hr
      have hbdS := sumS_bd (f := (stepX x y)) (rs := rs) (B := 40) (fun r hr => by have := sumE_bd40 (f := stepX x y) (B := 1) (fun a _ b _ => stepX_bd x y a b) (by omega) (Hr.out r hr).2; omega) (by omega) (k := rs.length) (by omega)
      rw [List.take_length, ← HS2.out] at hbdS
      obtain ⟨wb, hwb⟩ : ∃ wb : World, wb = w4 := ⟨_, rfl⟩
      subst hwb
      go_wp2_with fail
      go_loopw [7, 8] (fun n i wr => ∃ (k : Nat), k ≤ rs.length ∧ i = .int .i64 k ∧ n = .int .i64 (sumS (stepX x y) (rs.take k)) ∧ Ext wb wr) (fun _ i _ => rs.length - (intOf i).toNat)
      case atStart => exact ⟨0, Nat.zero_le _, rfl, rfl, Below.refl _ _⟩
      case round =>
        obtain ⟨k, hk, rfl, rfl, hx⟩ := hrel
        have X := Lib.hid hx
        clear hx
        have hbd := sumS_bd (f := (stepX x y)) (rs := rs) (B := 40) (fun r hr => by have := sumE_bd40 (f := stepX x y) (B := 1) (fun a _ b _ => stepX_bd x y a b) (by omega) (Hr.out r hr).2; omega) (by omega) (k := k) (by omega)
        by_cases hlt : k < rs.length
        · have Hst := Lib.hid (sumS_take (stepX x y) hlt)
          have hone : (rs.take (k + 1)).drop k = [rs[k]] := by rw [List.take_succ_eq_append_getElem hlt, List.drop_append_of_le_length (by rw [List.length_take]; omega)]; simp
          have Hsub : Hid (Rgs wr (subA A1 cap1 k 1) [rs[k]]) := Lib.hid (by rw [← hone]; exact (H.out.ext rgR_stab X.out).sub (by omega) (by omega) hcap)
          have hsl : ∀ W, (Instr.slice 25 (.slice A1 rs.length cap1) (some (.int .i64 (k : Int))) (some (.int .i64 ((k : Int) + 1))) none).run Try.prog W = .ok (.slice (subA A1 cap1 k 1) (k + 1 - k) (cap1 - k)) W := fun W => run_slice2 ei_rg _ _ _ k (k + 1) _ _ rfl (by omega) (by omega) (by omega) W
          have e1 : k + 1 - k = 1 := by omega
          rw [e1] at hsl
          have hr1 : rgsB [rs[k]] = true := rgsB_one (Hr.out _ (List.getElem_mem hlt))
          have hv : windR [rs[k]] x y = sumE (stepX x y) rs[k] := by rw [windR_eq hr1]; exact sumS_one _ _
          have K := Lib.hid (fun W (hW : Rgs W (subA A1 cap1 k 1) [rs[k]]) => by
            have := c_iWindingAt (subA A1 cap1 k 1) (cap1 - k) [rs[k]] x y W hW (by simp) (fun r hr => by simp at hr; subst hr; exact Hs.out _ (List.getElem_mem hlt))
            rw [hv] at this; exact this)
          clear hone e1 hr1 hv
          generalize subA A1 cap1 k 1 = As at *
          have hbe := sumE_bd40 (f := stepX x y) (B := 1) (fun a _ b _ => stepX_bd x y a b) (by omega) (Hr.out _ (List.getElem_mem hlt)).2
          generalize rs[k] = r at *
          generalize sumE (stepX x y) r = a1 at *
          go_wp2_with fail
          refine (K.out _ Hsub.out).mono ?_
          rintro e w6 ⟨rfl, hb⟩
          replace X := Lib.hid (Ext.trans X.out hb)
          clear hb
          clear hsl
          go_wp2
          go_roundw
          case rel => exact ⟨k + 1, by omega, by go_num, by rw [Hst.out], X.out⟩
          case measure => simp [intOf]; omega
        · have hk' : k = rs.length := by omega
          have Hf : Hid (sumS (stepX x y) (rs.take k) = S) := Lib.hid (by rw [hk', List.take_length, ← HS2.out])
          clear hk'
          rw [Hf.out]
          go_wp2
          go_ret
          exact ⟨rfl, Ext.trans E.out X.out⟩
  · have hnI : (1048576 : Int) < (bs.length : Int) := by omega
    clear h
    go_enter Try.func8, Try.ntmps8
    go_wp2
    go_ret
    exact ⟨rfl, Below.refl _ _⟩

theorem opens0 : Opens Try.prog 34 (slR byteR 1 ) :=  opens_slice Try.underlying34 (by kernel_rfl) (by decide) (opens_byte Try.underlying5)
set_option maxRecDepth 100000 in
theorem lifted (os : Os) (started : os.Started) (H : Type) (enc : TypeId × Value → H) :
    ReturnsInHanded {} Try.checked os 8 .any (Rows.fnWindingAtSpec.pre6 enc Try.prog Try.f8 Rows.fnWindingAtRow.domain false) (Rows.fnWindingAtSpec.post enc Try.prog Try.f8 false true false false) := by
  refine returnsInHanded_of_change (C := Try.checked) own started (by kernel_rfl) Try.func8
    (ChangeSpec.witness6 (enc := enc) (C := Try.checked) false ⟨#[], #[.slice none 0 0], []⟩ 8 (by kernel_rfl) (by kernel_rfl) (by kernel_rfl) (by kernel_rfl)) ?_
  intro W base args ds gs before hval0 hW hcnd _
  have hval : ∀ (j : Nat) t v, Try.f8.params[j]? = some t → args[j]? = some v → Value.okWide Try.prog W .any base t v := hval0
  have hW' := hW
  obtain ⟨p, q, hA0, hV, rfl, hfz, hnd⟩ := hW
  have hA : DataW.TrodAll enc Try.prog W 0 (fun _ => true) true Try.f8.params.toList args.toList ds p := hA0
  rw [Try.params8] at hA hval
  obtain ⟨v0, vs0, d0, ds0, p0, q0, hargs, rfl, rfl, h0, r0⟩ := trodAll_cons hA
  obtain ⟨rfl, rfl, rfl⟩ := trodAll_nil r0
  obtain rfl : args = #[v0] := by cases args; simp_all
  obtain ⟨rfl, rfl, rfl⟩ := trodVars_none hV
  obtain ⟨a0, len0, cap0, rfl⟩ := okWide_slice Try.underlying34 (hval 0 34 v0 rfl rfl)
  have k0 := h0
  have lt0 : ∀ x ∈ p0, x.block < W.heap.size := by obtain ⟨m, hm⟩ := k0; exact DataW.trod_lt m _ _ _ hm
  obtain ⟨xs0, rfl, w0, wl0, wc0⟩ := open_arg rfl opens0 h0
  clear hA0 hval0
  refine (walk a0 cap0 xs0 W w0 wl0 wc0).mono fun e W' ⟨he, bel⟩ => ?_
  subst he
  exact ⟨_, rfl, _, _, _, [], _, [], hW', trodAll_mk1 (shut_bool Try.underlying4 _), (trodAll_cons_mk (Below.trod laidOut (by kernel_rfl) (of_decide_eq_true (by kernel_rfl)) k0 bel lt0) trodAll_mk0), rfl, bel.frame _, fun h => by cases h⟩
theorem over : Rows.fnWindingAtRow.holds Try.pinned (OpenSpec.ofChange Rows.fnWindingAtSpec) :=
  OpenClaim.holds_of_wide 8 Try.f8 rfl rfl rfl rfl rfl rfl rfl ⟨rfl, rfl, rfl, rfl, rfl⟩ rfl rfl rfl rfl rfl (by kernel_rfl) Try.func8 (by kernel_rfl)
    (of_decide_eq_true (by kernel_rfl)) (by unfold Func.isWrapper; first | (rw [if_pos (by decide +kernel)]; kernel_rfl) | (rw [if_neg (by decide +kernel)]; exact ⟨rfl, rfl⟩))
    (fun os started H enc _ => lifted os started H enc)

theorem proved : Rows.FnWindingAtSaid := over

end Go.Proofs.Yteankmkhieckbaa.fnWindingAt

