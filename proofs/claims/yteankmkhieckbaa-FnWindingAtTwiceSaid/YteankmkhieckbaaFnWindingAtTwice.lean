/- The winding of polygons and the same once more is twice the winding, whatever the bytes that the polygons and the point are drawn from. -/
import Derived.Test.YteankmkhieckbaaRgCat
import Derived.Test.YteankmkhieckbaaOpen
namespace Go.Proofs.Yteankmkhieckbaa.fnWindingAtTwice
open Go Go.RowKit Go.ChangeShapes Go.WideShapes Go.ChangeAt Go.Deep Reg
attribute [local go_sem] calmAt calmUpon

theorem own : ownKnob Try.prog.godebug = none := by kernel_rfl
theorem laidOut : laidOutB Try.prog = true := by kernel_rfl

set_option maxRecDepth 100000 in
set_option maxHeartbeats 8000000 in
theorem walk (A : Option Addr) (cap : Nat) (bs : List Int) (w : World) (h : In byteR 1 w A bs) (hlc : bs.length ≤ cap) (hcm : cap ≤ maxLen) :
    Calls Try.prog 10 #[.slice A bs.length cap] w fun e w' => e = .returned (.bool true) ∧ Below w.heap.size w w' := by
  unfold maxLen at hcm
  by_cases hn : bs.length ≤ 1048576
  · have hnI : ¬ (1048576 : Int) < (bs.length : Int) := by omega
    have K0 := Lib.hid (c_DrawWindingAt A cap bs w h hlc (by omega))
    clear h hn
    go_enter Try.func10, Try.ntmps10
    go_wp2_with fail
    refine K0.out.mono ?_
    rintro e w1 ⟨A1, cap1, rs, x, y, rfl, hal, hcap, hxy, hrs, hb⟩
    have E := Lib.hid hb
    have H := Lib.hid hrs
    have hrl := hal.1
    have hc300 : corners rs ≤ 300 * rs.length := corners_le300 (fun r hr => (hal.2 r hr).1)
    have Hs : Hid (∀ r ∈ rs, r.length ≤ 1000000000) := Lib.hid (fun r hr => by have := (hal.2 r hr).1; omega)
    obtain ⟨⟨hx1, hx2⟩, hy1, hy2⟩ := hxy
    dsimp only at hx1 hx2 hy1 hy2
    clear hb hrs hal K0
    obtain ⟨S, hS⟩ : ∃ S, windR rs x y = S := ⟨_, rfl⟩
    have HS := Lib.hid hS
    clear hS
    go_wp2_with fail
    refine (c_iWindingAt A1 cap1 rs x y _ H.out (by omega) Hs.out).mono ?_
    rw [HS.out]
    rintro e w2 ⟨rfl, hb⟩
    replace E := Lib.hid (Ext.trans E.out hb)
    replace H := Lib.hid (H.out.ext rgR_stab hb)
    clear hb
    go_wp2_with fail
    refine (c_sWindingAt A1 cap1 rs x y _ H.out (by omega) Hs.out).mono ?_
    rw [HS.out]
    rintro e w3 ⟨rfl, hb⟩
    replace E := Lib.hid (Ext.trans E.out hb)
    replace H := Lib.hid (H.out.ext rgR_stab hb)
    clear hb

    obtain ⟨d, hd⟩ : ∃ d, rgsB rs = d := ⟨_, rfl⟩
    have Hd := Lib.hid hd
    clear hd
    go_wp2_with fail
    refine (c_iValidRings A1 cap1 rs _ H.out (by omega) Hs.out).mono ?_
    rw [Hd.out]
    rintro e w4 ⟨rfl, hb⟩
    replace E := Lib.hid (Ext.trans E.out hb)
    replace H := Lib.hid (H.out.ext rgR_stab hb)
    clear hb
    cases d
    · go_wp2_with fail
      refine (c_sWindingAt A1 cap1 rs x y _ H.out (by omega) Hs.out).mono ?_
      rw [HS.out]
      rintro e w5 ⟨rfl, hb⟩
      replace E := Lib.hid (Ext.trans E.out hb)
      replace H := Lib.hid (H.out.ext rgR_stab hb)
      clear hb
      go_wp2
      go_ret
      exact ⟨rfl, E.out⟩

    · obtain ⟨us, hul, hsrc, hus⟩ := rgs_src H.out
      have Hul := Lib.hid hul
      have Hsrc := Lib.hid hsrc
      have Hus := Lib.hid hus
      clear hul hsrc hus
      have hSb := windR_bd rs x y
      rw [HS.out] at hSb
      have R0 := Lib.hid (own_of_row (n := 0) (B := w4.heap.size) (sz := 1) (Row.new w4 38 []) (Nat.le_refl _) rfl (by decide))
      go_wp2_with (at_builtin; refine wpList_app (base := w4.heap.size) ei_rg rfl (.tmp 38) (.tmp 39) rfl rfl R0.out rfl (Hsrc.out.ext (ext_alloc _ _)) (by omega) (by simp) ?_; intro v5 w5 hown5 hg5 hat5; refine stop_in ?_)
      refine stop_out ?_
      obtain ⟨A5, cap5, hv5⟩ := own_form hown5
      have E5 : Hid (Ext w4 w5) := Lib.hid (own_below (ext_alloc _ _) R0.out hg5 (by simp))
      have hz5 : w4.heap.size ≤ w5.heap.size := E5.out.size
      have O5 : Hid (Has w5 w4.heap.size 38 1 (.slice A5 (0 + rs.length) cap5) (0 + rs.length) ([] ++ us)) := Lib.hid (by rw [hv5] at hown5; exact hown5)
      clear hown5 hg5 hat5
      subst hv5
      go_wp2_with (at_builtin; refine wpList_app (base := w4.heap.size) ei_rg rfl (.tmp 40) (.tmp 41) rfl rfl O5.out rfl (Hsrc.out.ext E5.out) (by omega) hz5 ?_; intro v6 w6 hown6 hg6 hat6; refine stop_in ?_)
      refine stop_out ?_
      obtain ⟨A6, cap6, hv6⟩ := own_form hown6
      have E6 : Hid (Ext w4 w6) := Lib.hid (own_below E5.out O5.out hg6 hz5)
      have hll : 0 + rs.length + rs.length = (rs ++ rs).length := by simp
      have O6 : Hid (Rgs w6 A6 (rs ++ rs)) := Lib.hid (by
        rw [hv6, hll] at hown6
        exact own_rgs hown6 (rgR_app (by simpa using Hul.out) (rgs_ext (by simpa using Hus.out) E6.out) (rgs_ext Hus.out E6.out)))
      have hv6' : v6 = .slice A6 (rs ++ rs).length cap6 := by rw [hv6, hll]
      have hl6 : (rs ++ rs).length ≤ 80 := by simp; omega
      have Hs6 : Hid (∀ r ∈ rs ++ rs, r.length ≤ 1000000000) := Lib.hid (fun r hr => by
        rcases List.mem_append.1 hr with hr | hr <;> exact Hs.out r hr)
      have Hd6 : Hid (rgsB (rs ++ rs) = true → windR (rs ++ rs) x y = 2 * S) := Lib.hid (fun h => by
        rw [windR_eq h, sumS_append, ← windR_eq Hd.out, HS.out]; omega)
      replace E := Lib.hid (Ext.trans E.out E6.out)
      clear hown6 hg6 hat6 hv6 hll
      subst hv6'
      obtain ⟨d2, hd2⟩ : ∃ d, rgsB (rs ++ rs) = d := ⟨_, rfl⟩
      have Hd2 := Lib.hid hd2
      rw [hd2] at Hd6
      clear hd2
      generalize rs ++ rs = qs at *
      go_wp2_with fail
      refine (c_iValidRings A6 cap6 qs _ O6.out (by omega) Hs6.out).mono ?_
      rw [Hd2.out]
      rintro e w7 ⟨rfl, hb⟩
      replace E := Lib.hid (Ext.trans E.out hb)
      replace O6 := Lib.hid (O6.out.ext rgR_stab hb)
      clear hb
      cases d2
      · go_wp2
        go_ret
        exact ⟨rfl, E.out⟩
      · have Hv := Lib.hid (Hd6.out rfl)
        go_wp2_with fail
        refine (c_iWindingAt A6 cap6 qs x y _ O6.out (by omega) Hs6.out).mono ?_
        rw [Hv.out]
        rintro e w8 ⟨rfl, hb⟩
        replace E := Lib.hid (Ext.trans E.out hb)
        replace O6 := Lib.hid (O6.out.ext rgR_stab hb)
        clear hb
        go_wp2
        go_ret
        exact ⟨rfl, E.out⟩
  · have hnI : (1048576 : Int) < (bs.length : Int) := by omega
    clear h
    go_enter Try.func10, Try.ntmps10
    go_wp2
    go_ret
    exact ⟨rfl, Below.refl _ _⟩

theorem opens0 : Opens Try.prog 34 (slR byteR 1 ) :=  opens_slice Try.underlying34 (by kernel_rfl) (by decide) (opens_byte Try.underlying5)
set_option maxRecDepth 100000 in
theorem lifted (os : Os) (started : os.Started) (H : Type) (enc : TypeId × Value → H) :
    ReturnsInHanded {} Try.checked os 10 .any (Rows.fnWindingAtTwiceSpec.pre6 enc Try.prog Try.f10 Rows.fnWindingAtTwiceRow.domain false) (Rows.fnWindingAtTwiceSpec.post enc Try.prog Try.f10 false true false false) := by
  refine returnsInHanded_of_change (C := Try.checked) own started (by kernel_rfl) Try.func10
    (ChangeSpec.witness6 (enc := enc) (C := Try.checked) false ⟨#[], #[.slice none 0 0], []⟩ 8 (by kernel_rfl) (by kernel_rfl) (by kernel_rfl) (by kernel_rfl)) ?_
  intro W base args ds gs before hval0 hW hcnd _
  have hval : ∀ (j : Nat) t v, Try.f10.params[j]? = some t → args[j]? = some v → Value.okWide Try.prog W .any base t v := hval0
  have hW' := hW
  obtain ⟨p, q, hA0, hV, rfl, hfz, hnd⟩ := hW
  have hA : DataW.TrodAll enc Try.prog W 0 (fun _ => true) true Try.f10.params.toList args.toList ds p := hA0
  rw [Try.params10] at hA hval
  obtain ⟨v0, vs0, d0, ds0, p0, q0, hargs, rfl, rfl, h0, r0⟩ := trodAll_cons hA
  obtain ⟨rfl, rfl, rfl⟩ := trodAll_nil r0
  obtain rfl : args = #[v0] := by cases args; simp_all
  obtain ⟨rfl, rfl, rfl⟩ := trodVars_none hV
  obtain ⟨a0, len0, cap0, rfl⟩ := okWide_slice Try.underlying34 (hval 0 34 v0 rfl rfl)
  have k0 := h0
  have lt0 : ∀ x ∈ p0, x.block < W.heap.size := by obtain ⟨m, hm⟩ := k0; exact DataW.trod_lt m _ _ _ hm
  obtain ⟨xs0, rfl, w0, wl0, wc0⟩ := open_arg rfl opens0 h0
  clear hA0 hval0
  refine (walk a0 cap0 xs0 W w0 wl0 wc0).mono fun e W' ⟨he, bel⟩ => ?_
  subst he
  exact ⟨_, rfl, _, _, _, [], _, [], hW', trodAll_mk1 (shut_bool Try.underlying4 _), (trodAll_cons_mk (Below.trod laidOut (by kernel_rfl) (of_decide_eq_true (by kernel_rfl)) k0 bel lt0) trodAll_mk0), rfl, bel.frame _, fun h => by cases h⟩
theorem over : Rows.fnWindingAtTwiceRow.holds Try.pinned (OpenSpec.ofChange Rows.fnWindingAtTwiceSpec) :=
  OpenClaim.holds_of_wide 10 Try.f10 rfl rfl rfl rfl rfl rfl rfl ⟨rfl, rfl, rfl, rfl, rfl⟩ rfl rfl rfl rfl rfl (by kernel_rfl) Try.func10 (by kernel_rfl)
    (of_decide_eq_true (by kernel_rfl)) (by unfold Func.isWrapper; first | (rw [if_pos (by decide +kernel)]; kernel_rfl) | (rw [if_neg (by decide +kernel)]; exact ⟨rfl, rfl⟩))
    (fun os started H enc _ => lifted os started H enc)

theorem proved : Rows.FnWindingAtTwiceSaid := over

end Go.Proofs.Yteankmkhieckbaa.fnWindingAtTwice

