/- The polygons of a drawn path are those of the path without its closes, whatever the bytes that the path is drawn from. -/
import Derived.Test.YtnclnmciaehgeaaAPath
import Derived.Test.YtnclnmciaehgeaaRingsO
import Derived.Test.YtnclnmciaehgeaaEqualR
import Derived.Test.YtnclnmciaehgeaaPathM
import Derived.Test.YtnclnmciaehgeaaJoin
import Derived.Test.YtnclnmciaehgeaaOpen
namespace Go.Proofs.Ytnclnmciaehgeaa.fnRingsOfClose
open Go Go.RowKit Go.ChangeShapes Go.WideShapes Go.ChangeAt Go.Deep Reg
attribute [local go_sem] calmAt calmUpon

theorem own : ownKnob Try.prog.godebug = none := by kernel_rfl
theorem laidOut : laidOutB Try.prog = true := by kernel_rfl
/-- The cells of verbs, their slices read where they are. -/
def cellsV (w : World) (vs : List Vb) (cs : List Value) : Prop := ∃ us : List Value, us.length = vs.length ∧ cs = zipC vs us ∧ ∀ (k : Nat) (h1 : k < us.length) (h2 : k < vs.length), ∃ A cap, us[k] = .slice A vs[k].2.length cap ∧ Pts w A vs[k].2 ∧ SlOk A vs[k].2.length cap
theorem cellsV_nil (w : World) : cellsV w [] [] := ⟨[], rfl, rfl, fun k h1 => by simp at h1⟩
theorem cellsV_ext {w w' : World} {vs : List Vb} {cs : List Value} (h : cellsV w vs cs) (hx : Ext w w') : cellsV w' vs cs := by
  obtain ⟨us, h1, h2, h3⟩ := h
  exact ⟨us, h1, h2, fun k k1 k2 => by obtain ⟨A, cap, a, b, c⟩ := h3 k k1 k2; exact ⟨A, cap, a, b.ext ptR_stab hx, c⟩⟩
theorem cellsV_push {w : World} {vs : List Vb} {cs : List Value} (h : cellsV w vs cs) {v : Vb} {A : Option Addr} {cap : Nat} (hp : Pts w A v.2) (hs : SlOk A v.2.length cap) : cellsV w (vs ++ [v]) (cs ++ [.int .i64 v.1, .slice A v.2.length cap]) := by
  obtain ⟨us, h1, h2, h3⟩ := h
  refine ⟨us ++ [.slice A v.2.length cap], by simp [h1], by rw [h2, zipC_append h1.symm]; rfl, fun k k1 k2 => ?_⟩
  simp only [List.length_append, List.length_cons, List.length_nil] at k1 k2
  rcases Nat.lt_or_ge k us.length with hlt | hge
  · obtain ⟨A', cap', a, b, c⟩ := h3 k hlt (by omega)
    refine ⟨A', cap', ?_, ?_, ?_⟩
    · rw [List.getElem_append_left hlt, a]; simp only [List.getElem_append_left (show k < vs.length by omega)]
    · simpa only [List.getElem_append_left (show k < vs.length by omega)] using b
    · simpa only [List.getElem_append_left (show k < vs.length by omega)] using c
  · obtain rfl : k = us.length := by omega
    have e : (vs ++ [v])[us.length]'(by simp [h1]) = v := by simp [h1]
    exact ⟨A, cap, by rw [List.getElem_concat_length rfl]; simp only [e], by simp only [e]; exact hp, by simp only [e]; exact hs⟩
theorem cellsV_one {w : World} {vs : List Vb} {cs : List Value} (h : cellsV w vs cs) : cs.length = vs.length * 2 := by
  obtain ⟨us, h1, h2, _⟩ := h
  rw [h2, zipC_len h1]
/-- An own row of verbs that share their points reads as verbs. -/
theorem own_vbk {w : World} {B : Nat} {e : TypeId} {A : Option Addr} {cap : Nat} {vs : List Vb} {cs : List Value} (h : Has w B e 2 (.slice A vs.length cap) vs.length cs) (hc : cellsV w vs cs) : VbK w A vs := by
  intro hn
  obtain ⟨g, hA, _, _⟩ := own_at h hn
  subst hA
  obtain ⟨us, h1, h2, h3⟩ := hc
  subst h2
  refine ⟨g, 0, rfl, fun k hk => ?_⟩
  obtain ⟨A', cap', a, b, c⟩ := h3 k (by omega) hk
  obtain ⟨z0, z1⟩ := zipC_get h1 hk
  refine ⟨[.int .i64 vs[k].1, .slice A' vs[k].2.length cap'], ⟨A', cap', rfl, b, c⟩, rfl, fun j u hu => ?_⟩
  rw [Nat.zero_add]
  match j, hu with
  | 0, hu =>
    simp at hu; subst hu
    rw [Nat.add_zero, h.cellAt _ (by omega), z0]
  | 1, hu =>
    simp at hu; subst hu
    rw [h.cellAt _ (by omega), z1, a]
theorem openL_take {vs : List Vb} {k : Nat} (h : k < vs.length) : openL (vs.take (k + 1)) = if vs[k].1 = 4 then openL (vs.take k) else openL (vs.take k) ++ [vs[k]] := by
  unfold openL
  rw [List.take_succ_eq_append_getElem h, List.filter_append]
  split
  · rename_i h4; simp [h4]
  · rename_i h4
    have : (vs[k].1 != 4) = true := by simpa using h4
    simp [this]
theorem openL_len (vs : List Vb) (k : Nat) : (openL (vs.take k)).length ≤ k := by
  refine Nat.le_trans (List.length_filter_le _ _) ?_
  rw [List.length_take]; omega

set_option maxRecDepth 100000 in
set_option maxHeartbeats 4000000 in
theorem walk (A : Option Addr) (cap : Nat) (bs : List Int) (w : World) (h : In byteR 1 w A bs) (hlc : bs.length ≤ cap) (hcm : cap ≤ maxLen) :
    Calls Try.prog 4 #[.slice A bs.length cap] w fun e w' => e = .returned (.bool true) ∧ Below w.heap.size w w' := by
  unfold maxLen at hcm
  by_cases hn : bs.length ≤ 1048576
  · have hnI : ¬ (1048576 : Int) < (bs.length : Int) := by omega
    have E := Lib.hid (Below.refl w.heap.size w)
    go_enter Try.func4, Try.ntmps4
    go_wp2_with fail
    refine (c_DrawRingsOf A cap bs w h hlc (by omega)).mono ?_
    rintro e w1 ⟨A1, cap1, vs, ss, rfl, hall, hl, ho1, hb⟩
    replace E := Lib.hid (Ext.trans E.out hb)
    clear hb
    have V := Lib.hid (ho1.inK)
    have hcap := ho1.out.slok.2.1
    have Hall : Hid (∀ v ∈ vs, v.2.length ≤ 1000000000) := Lib.hid (fun v hv => Nat.le_trans (hall v hv) (by decide))
    clear ho1 h hn hall
    obtain ⟨S, hS⟩ : ∃ S, ringsV vs = S := ⟨_, rfl⟩
    have HS := Lib.hid hS
    have hSl := (ringsV_ok vs).2.2
    have hSr := ringsV_len vs
    rw [hS] at hSl hSr
    have Sr7 : Hid (∀ r ∈ S, r.length ≤ 1048576) := Lib.hid (fun r hr => by have := hSr r hr; omega)
    clear hS hSr
    obtain ⟨d, hd⟩ : ∃ d, d = pathOk vs := ⟨_, rfl⟩
    have Hd := Lib.hid hd
    clear hd
    go_wp2_with fail
    refine (c_iRingsOf A1 cap1 vs w1 V.out (by omega) Hall.out).mono ?_
    rw [HS.out]
    rintro e w2 ⟨A2, cap2, ss2, rfl, ho2, hb⟩
    replace E := Lib.hid (Ext.trans E.out hb)
    replace V := Lib.hid (V.out.ext verbK_stab hb)
    clear hb
    have G := Lib.hid (ho2.in_)
    clear ho2
    go_wp2_with fail
    refine (c_sRingsOf A1 cap1 vs w2 V.out.toV (by omega) Hall.out).mono ?_
    rw [HS.out]
    rintro e w3 ⟨A3, cap3, ss3, rfl, ho3, hb⟩
    replace E := Lib.hid (Ext.trans E.out hb)
    replace V := Lib.hid (V.out.ext verbK_stab hb)
    replace G := Lib.hid (G.out.ext rgR_stab hb)
    clear hb
    have W0 := Lib.hid (ho3.in_)
    clear ho3
    go_wp2_with fail
    refine (c_equalRings _ _ _ _ S _ G.out W0.out (by omega) Sr7.out).mono ?_
    rintro e w4 ⟨rfl, hb⟩
    replace E := Lib.hid (Ext.trans E.out hb)
    replace V := Lib.hid (V.out.ext verbK_stab hb)
    replace G := Lib.hid (G.out.ext rgR_stab hb)
    replace W0 := Lib.hid (W0.out.ext rgR_stab hb)
    clear hb
    obtain ⟨wb, hwb⟩ : ∃ wb : World, wb = w4 := ⟨_, rfl⟩
    subst hwb
    go_wp2_with fail
    have O0 := Lib.hid (own_of_row (n := 0) (B := wb.heap.size) (sz := 2) (Row.new wb 31 []) (Nat.le_refl _) rfl (by decide))
    go_loopw [5, 6] (fun v5 v6 wr => ∃ (k : Nat) (A5 : Option Addr) (cap5 : Nat) (qs : List Vb) (cs : List Value), k ≤ vs.length ∧ v6 = .int .i64 k ∧ v5 = .slice A5 qs.length cap5 ∧ qs = openL (vs.take k) ∧ Has wr wb.heap.size 31 2 (.slice A5 qs.length cap5) qs.length cs ∧ cellsV wb qs cs ∧ Ext wb wr) (fun _ v6 _ => vs.length - (intOf v6).toNat)
    case atStart => exact ⟨0, _, 0, [], [], Nat.zero_le _, rfl, rfl, by simp [openL], O0.out, cellsV_nil _, ext_alloc _ _⟩
    case round =>
      obtain ⟨k, A5, cap5, qs, cs, hk, rfl, rfl, hqs, ho5, hcv, hbw⟩ := hrel
      have X := Lib.hid hbw
      have O := Lib.hid ho5
      have Cv := Lib.hid hcv
      have Hqs := Lib.hid hqs
      have hql : qs.length ≤ k := by rw [hqs]; exact openL_len vs k
      have hzb : wb.heap.size ≤ wr.heap.size := hbw.size
      clear hbw ho5 hcv hqs O0
      by_cases hkl : k < vs.length
      · have hkI : decide ((k : Int) < (vs.length : Int)) = true := by simp; omega
        obtain ⟨b1, off1, hA1, hb1, hc1⟩ := V.out.vbk (by omega)
        subst hA1
        obtain ⟨Av, capv, cx, cy, hp, hsk⟩ := hc1 k hkl
        have Hot := Lib.hid (openL_take hkl)
        have Hp := Lib.hid hp
        have Hsk := Lib.hid hsk
        clear hc1 hp hsk
        generalize vs[k] = vk at *
        obtain ⟨q, ps⟩ := vk
        dsimp only at cx cy Hot Hp Hsk
        have Cx := Lib.hid (Cls.cell X.out cx)
        have Cy := Lib.hid (Cls.cell X.out cy)
        clear cx cy
        by_cases h4 : q = 4
        · subst h4
          have Hn : Hid (qs = openL (vs.take (k + 1))) := Lib.hid (by rw [Hot.out, if_pos rfl, Hqs.out])
          have cx := Cx.out
          have cy := Cy.out
          go_wp2
          go_roundw
          case rel => exact ⟨k + 1, A5, cap5, qs, cs, by omega, by go_num, rfl, Hn.out, O.out, Cv.out, X.out⟩
          case measure => simp [intOf]; omega
        · have Hn : Hid (qs ++ [(q, ps)] = openL (vs.take (k + 1))) := Lib.hid (by rw [Hot.out, if_neg h4, Hqs.out])
          have hq4 : (q != 4) = true := by simpa using h4
          have cx := Cx.out
          have cy := Cy.out
          go_wp2_with (at_builtin; refine wpList_app (base := wb.heap.size) ei_vb rfl (.tmp 32) (.tmp 37) rfl rfl (own_ext O.out (ext_alloc _ _)) rfl (src_new _ _ [_, _] (m := 1) rfl (by intro u hu; simp only [List.mem_cons, List.not_mem_nil, or_false] at hu; rcases hu with rfl | rfl <;> rfl)) (by omega) (by simp; omega) ?_; intro ve we hown hg hat; refine stop_in ?_)
          refine stop_out ?_
          obtain ⟨A6, cap6, hve⟩ := own_form hown
          have O6 : Hid (Has we wb.heap.size 31 2 (.slice A6 (qs ++ [(q, ps)]).length cap6) (qs ++ [(q, ps)]).length (cs ++ [.int .i64 q, .slice Av ps.length capv])) := Lib.hid (by
            rw [hve] at hown; rw [List.length_append]; exact hown)
          have hve' : ve = .slice A6 (qs ++ [(q, ps)]).length cap6 := by rw [hve, List.length_append]; rfl
          have Cv2 : Hid (cellsV wb (qs ++ [(q, ps)]) (cs ++ [.int .i64 q, .slice Av ps.length capv])) := Lib.hid (cellsV_push (v := (q, ps)) Cv.out Hp.out Hsk.out)
          have X2 := Lib.hid (Below.grown (Ext.trans X.out (ext_alloc _ _)) hg (by simp; omega) (fun k hk => by have := (O.out.lt k hk).1; omega))
          clear hown hg hat hve
          subst hve'
          go_wp2
          go_roundw
          case rel => exact ⟨k + 1, A6, cap6, qs ++ [(q, ps)], _, by omega, by go_num, rfl, Hn.out, O6.out, Cv2.out, X2.out⟩
          case measure => simp [intOf]; omega
      · have hkk : k = vs.length := by omega
        have hkI : decide ((k : Int) < (vs.length : Int)) = false := by simp; omega
        have Q : Hid (VbK wr A5 qs) := Lib.hid (own_vbk O.out (cellsV_ext Cv.out X.out))
        have hqv : qs = openL vs := by rw [Hqs.out, hkk, List.take_length]
        have Hq9 : Hid (∀ v ∈ qs, v.2.length ≤ 1000000000) := Lib.hid (fun v hv => by rw [hqv] at hv; exact Hall.out v (List.mem_filter.1 hv).1)
        have E2 := Lib.hid (Ext.trans E.out X.out)
        have V2 := Lib.hid (V.out.ext verbK_stab X.out)
        have G2 := Lib.hid (G.out.ext rgR_stab X.out)
        have hq5 : qs.length ≤ 100 := by omega
        have Hok : Hid (d = true → pathOk qs = true ∧ ringsV qs = S) := Lib.hid (fun hd => by
          have h1 : pathOk vs = true := by rw [← Hd.out, hd]
          have h2 : pathOk qs = true := by rw [hqv]; exact openL_ok h1
          refine ⟨h2, ?_⟩
          rw [ringsV_yes h2, hqv, ringsL_open, ← ringsV_yes h1]
          exact HS.out)
        clear hkk hqv
        go_wp2_with fail
        refine (c_iValidPath A1 cap1 vs wr V2.out.toV (by omega) Hall.out).mono ?_
        rw [← Hd.out]
        rintro e w6 ⟨rfl, hb⟩
        replace E2 := Lib.hid (Ext.trans E2.out hb)
        replace V2 := Lib.hid (V2.out.ext verbK_stab hb)
        replace G2 := Lib.hid (G2.out.ext rgR_stab hb)
        replace Q := Lib.hid (Q.out.ext verbK_stab hb)
        clear hb
        cases d
        · go_wp2
          go_ret
          exact ⟨rfl, E2.out⟩
        · obtain ⟨ho1, ho2⟩ := Hok.out rfl
          have Ho1 := Lib.hid ho1
          have Ho2 := Lib.hid ho2
          clear ho1 ho2
          go_wp2_with fail
          refine (c_iValidPath A5 cap5 qs w6 Q.out.toV (by omega) Hq9.out).mono ?_
          rw [Ho1.out]
          rintro e w7 ⟨rfl, hb⟩
          replace E2 := Lib.hid (Ext.trans E2.out hb)
          replace V2 := Lib.hid (V2.out.ext verbK_stab hb)
          replace G2 := Lib.hid (G2.out.ext rgR_stab hb)
          replace Q := Lib.hid (Q.out.ext verbK_stab hb)
          clear hb
          go_wp2_with fail
          refine (c_iRingsOf A5 cap5 qs w7 Q.out (by omega) Hq9.out).mono ?_
          rw [Ho2.out]
          rintro e w8 ⟨A8, cap8, ss8, rfl, ho8, hb⟩
          replace E2 := Lib.hid (Ext.trans E2.out hb)
          replace V2 := Lib.hid (V2.out.ext verbK_stab hb)
          replace G2 := Lib.hid (G2.out.ext rgR_stab hb)
          replace Q := Lib.hid (Q.out.ext verbK_stab hb)
          clear hb
          have W8 := Lib.hid (ho8.in_)
          clear ho8
          go_wp2_with fail
          refine (c_equalRings _ _ _ _ S _ W8.out G2.out (by omega) Sr7.out).mono ?_
          rintro e w9 ⟨rfl, hb⟩
          replace E2 := Lib.hid (Ext.trans E2.out hb)
          replace V2 := Lib.hid (V2.out.ext verbK_stab hb)
          replace G2 := Lib.hid (G2.out.ext rgR_stab hb)
          replace Q := Lib.hid (Q.out.ext verbK_stab hb)
          replace W8 := Lib.hid (W8.out.ext rgR_stab hb)
          clear hb
          go_wp2
          go_ret
          exact ⟨rfl, E2.out⟩
  · have hnI : (1048576 : Int) < (bs.length : Int) := by omega
    go_enter Try.func4, Try.ntmps4
    go_wp2
    go_ret
    exact ⟨rfl, Below.refl _ _⟩

theorem opens0 : Opens Try.prog 22 (slR byteR 1 ) :=  opens_slice Try.underlying22 (by kernel_rfl) (by decide) (opens_byte Try.underlying5)
set_option maxRecDepth 100000 in
theorem lifted (os : Os) (started : os.Started) (H : Type) (enc : TypeId × Value → H) :
    ReturnsInHanded {} Try.checked os 4 .any (Rows.fnRingsOfCloseSpec.pre6 enc Try.prog Try.f4 Rows.fnRingsOfCloseRow.domain false) (Rows.fnRingsOfCloseSpec.post enc Try.prog Try.f4 false true false false) := by
  refine returnsInHanded_of_change (C := Try.checked) own started (by kernel_rfl) Try.func4
    (ChangeSpec.witness6 (enc := enc) (C := Try.checked) false ⟨#[], #[.slice none 0 0], []⟩ 8 (by kernel_rfl) (by kernel_rfl) (by kernel_rfl) (by kernel_rfl)) ?_
  intro W base args ds gs before hval0 hW hcnd _
  have hval : ∀ (j : Nat) t v, Try.f4.params[j]? = some t → args[j]? = some v → Value.okWide Try.prog W .any base t v := hval0
  have hW' := hW
  obtain ⟨p, q, hA0, hV, rfl, hfz, hnd⟩ := hW
  have hA : DataW.TrodAll enc Try.prog W 0 (fun _ => true) true Try.f4.params.toList args.toList ds p := hA0
  rw [Try.params4] at hA hval
  obtain ⟨v0, vs0, d0, ds0, p0, q0, hargs, rfl, rfl, h0, r0⟩ := trodAll_cons hA
  obtain ⟨rfl, rfl, rfl⟩ := trodAll_nil r0
  obtain rfl : args = #[v0] := by cases args; simp_all
  obtain ⟨rfl, rfl, rfl⟩ := trodVars_none hV
  obtain ⟨a0, len0, cap0, rfl⟩ := okWide_slice Try.underlying22 (hval 0 22 v0 rfl rfl)
  have k0 := h0
  have lt0 : ∀ x ∈ p0, x.block < W.heap.size := by obtain ⟨m, hm⟩ := k0; exact DataW.trod_lt m _ _ _ hm
  obtain ⟨xs0, rfl, w0, wl0, wc0⟩ := open_arg rfl opens0 h0
  clear hA0 hval0
  refine (walk a0 cap0 xs0 W w0 wl0 wc0).mono fun e W' ⟨he, bel⟩ => ?_
  subst he
  exact ⟨_, rfl, _, _, _, [], _, [], hW', trodAll_mk1 (shut_bool Try.underlying4 _), (trodAll_cons_mk (Below.trod laidOut (by kernel_rfl) (of_decide_eq_true (by kernel_rfl)) k0 bel lt0) trodAll_mk0), rfl, bel.frame _, fun h => by cases h⟩
theorem joinedA : joinA Try.pinned.checked.prog 4 Try.f4 Rows.fnRingsOfCloseSpec Rows.fnRingsOfCloseRow = true := by kernel_rfl
theorem joinedB : joinB Try.pinned.checked.prog Rows.fnRingsOfCloseRow = true := by kernel_rfl
theorem over : Rows.fnRingsOfCloseRow.holds Try.pinned (OpenSpec.ofChange Rows.fnRingsOfCloseSpec) :=
  OpenClaim.holds_of_wide 4 Try.f4 rfl rfl rfl rfl rfl rfl rfl ⟨rfl, rfl, rfl, rfl, rfl⟩ rfl rfl rfl rfl rfl (by kernel_rfl) Try.func4 (joined_of joinedA joinedB)
    (of_decide_eq_true (by kernel_rfl)) (by unfold Func.isWrapper; first | (rw [if_pos (by decide +kernel)]; kernel_rfl) | (rw [if_neg (by decide +kernel)]; exact ⟨rfl, rfl⟩))
    (fun os started H enc _ => lifted os started H enc)

theorem proved : Rows.FnRingsOfCloseSaid := over

end Go.Proofs.Ytnclnmciaehgeaa.fnRingsOfClose
