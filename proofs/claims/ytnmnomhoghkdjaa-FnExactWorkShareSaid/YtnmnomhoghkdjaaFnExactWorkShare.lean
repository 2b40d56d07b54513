/- WorkShare of the program and WorkShare of the reference return the same for all numbers and turns, in memory of its own; the argument is left as it was. -/
import Derived.Test.YtnmnomhoghkdjaaWorkX
import Derived.Test.YtnmnomhoghkdjaaMarkI
import Derived.Test.YtnmnomhoghkdjaaOpen
namespace Go.Proofs.Ytnmnomhoghkdjaa.fnExactWorkShare
open Go Go.RowKit Go.ChangeShapes Go.WideShapes Go.ChangeAt Go.Deep Reg
attribute [local go_sem] calmAt calmUpon

theorem own : ownKnob Try.prog.godebug = none := by kernel_rfl
theorem laidOut : laidOutB Try.prog = true := by kernel_rfl
theorem row_pts {w : World} {b : Nat} {e : TypeId} {ps : List Pt} (h : Row w b e (ps.flatMap ptC)) : Pts w (some ⟨b, 0, none⟩) ps := Row.in_ (rest := []) (enc := ptC) ptC_len (by simpa using h) (fun _ _ => rfl)

set_option maxRecDepth 100000 in
set_option maxHeartbeats 4000000 in
theorem walk (n W : Int) (A : Option Addr) (cap : Nat) (ts : List Pt) (w : World) (h : Pts w A ts) (hlc : ts.length ≤ cap) (hcm : cap ≤ maxLen) :
    Calls Try.prog 6 #[.int .i64 n, .int .i64 W, .slice A ts.length cap] w fun e w' => e = .returned (.bool true) ∧ Below w.heap.size w w' := by
  have hl := Nat.le_trans hlc hcm
  unfold maxLen at hl hcm
  by_cases hn : ts.length ≤ 1048576
  · have hs : (if (1048576 : Int) - ts.length < 0 then (-1 : Int) else 1048576 - ts.length) = 1048576 - ts.length := if_neg (by omega)
    have Hs := Lib.hid hs
    have H := Lib.hid h
    have E := Lib.hid (Below.refl w.heap.size w)
    have hrl := shareR_bd n W ts
    obtain ⟨rs, hS⟩ : ∃ S, shareR n W ts = S := ⟨_, rfl⟩
    rw [hS] at hrl
    have HS := Lib.hid hS
    clear hs h hS
    go_enter Try.func6, Try.ntmps6
    go_wp2_with fail
    refine (c_szTurnS A ts.length cap 1048576 _ (by omega) (by omega) (by omega)).mono ?_
    rw [Hs.out]
    rintro e w' ⟨rfl, rfl⟩
    go_wp2_with fail
    refine (c_toTurnS A cap ts _ H.out hn).mono ?_
    rintro e w1 ⟨b1, rfl, _, hr1, hb⟩
    replace E := Lib.hid (Ext.trans E.out hb)
    replace H := Lib.hid (H.out.ext ptR_stab hb)
    clear hb
    have R1 := Lib.hid (hr1)
    clear hr1
    go_wp2_with fail
    refine (c_sWorkShare n W _ _ ts _ (row_pts R1.out) (by omega)).mono ?_
    rw [HS.out]
    rintro e w3 ⟨A3, cap3, rfl, ho3, hb⟩
    replace E := Lib.hid (Ext.trans E.out hb)
    replace H := Lib.hid (H.out.ext ptR_stab hb)
    replace R1 := Lib.hid (R1.out.ext hb)
    have lR1 := R1.out.lt
    clear hb
    have P := Lib.hid (own_in (R := intR) (enc := intC) intC_len (by decide) ho3 (fun _ => rfl))
    have H3 := Lib.hid H.out
    have E3 := Lib.hid E.out
    clear ho3 R1 lR1 H E
    have E := Lib.hid (Below.refl w3.heap.size w3)
    go_wp2_with fail
    refine (c_toTurnS A cap ts _ (H3.out.ext ptR_stab E.out) hn).mono ?_
    rintro e w4 ⟨b4, rfl, hge4, hr4, hb⟩
    replace E := Lib.hid (Ext.trans E.out hb)
    clear hb
    have R4 := Lib.hid (hr4)
    clear hr4
    have hz4 : w3.heap.size ≤ w4.heap.size := E.out.size
    go_wp2_with fail
    refine (c_iWorkShare n W _ _ ts _ (row_pts R4.out) (by omega)).mono ?_
    rw [HS.out]
    rintro e w5 ⟨A5, cap5, rfl, ho5, hb⟩
    replace E := Lib.hid (Ext.trans E.out hb)
    replace R4 := Lib.hid (R4.out.ext hb)
    have lR4 := R4.out.lt
    clear hb
    have O := Lib.hid (ho5)
    clear ho5
    go_wp2_with fail
    refine (c_eqIntS A5 A3 cap5 cap3 rs _ (own_in (R := intR) (enc := intC) intC_len (by decide) O.out (fun _ => rfl)) (P.out.ext intR_stab E.out) (by omega)).mono ?_
    rintro e w6 ⟨rfl, hb⟩
    replace E := Lib.hid (Ext.trans E.out hb)
    replace R4 := Lib.hid (R4.out.ext hb)
    have lR4 := R4.out.lt
    replace O := Lib.hid (own_ext O.out hb)
    clear hb
    go_wp2_with fail
    refine (c_toTurnS A cap ts _ (H3.out.ext ptR_stab E.out) hn).mono ?_
    rintro e w7 ⟨b7, rfl, _, hr7, hb⟩
    replace E := Lib.hid (Ext.trans E.out hb)
    replace R4 := Lib.hid (R4.out.ext hb)
    have lR4 := R4.out.lt
    replace O := Lib.hid (own_ext O.out hb)
    clear hb
    have R7 := Lib.hid (hr7)
    clear hr7
    go_wp2_with fail
    refine (c_eqTurnS _ _ _ _ ts ts _ (row_pts R4.out) (row_pts R7.out) (by omega) (by omega)).mono ?_
    rw [(decide_eq_true (rfl : ts = ts))]
    rintro e w8 ⟨rfl, hb⟩
    replace E := Lib.hid (Ext.trans E.out hb)
    replace R4 := Lib.hid (R4.out.ext hb)
    have lR4 := R4.out.lt
    replace O := Lib.hid (own_ext O.out hb)
    replace R7 := Lib.hid (R7.out.ext hb)
    have lR7 := R7.out.lt
    clear hb
    have W4 := Lib.hid (own_of_row (n := ts.length) (sz := 2) (B := w3.heap.size) R4.out hge4 (by rw [flat_len ptC_len]) (by omega))
    have hz8 : w3.heap.size ≤ w8.heap.size := E.out.size
    go_wp2_with fail
    refine (c_markTurnS W4.out 1 (by omega) (by omega) (by omega)).mono ?_
    rintro e w9 ⟨rfl, ho9, hg9⟩
    replace O := Lib.hid (O.out.grownNe W4.out (by decide) hg9)
    replace E := Lib.hid (own_below E.out W4.out hg9 hz8)
    clear ho9 hg9 W4 R4 R7 lR4 lR7
    have hk9 : ¬ (1 : Int) + 2 * ts.length < 0 := by omega
    go_wp2_with fail
    refine (c_eqIntS A5 A3 cap5 cap3 rs _ (own_in (R := intR) (enc := intC) intC_len (by decide) O.out (fun _ => rfl)) (P.out.ext intR_stab E.out) (by omega)).mono ?_
    rintro e w10 ⟨rfl, hb⟩
    replace E := Lib.hid (Ext.trans E.out hb)
    replace O := Lib.hid (own_ext O.out hb)
    clear hb
    have hz10 : w3.heap.size ≤ w10.heap.size := E.out.size
    go_wp2_with fail
    refine (c_markIntS O.out 1 (by omega) (by omega) (by omega)).mono ?_
    rintro e w11 ⟨rfl, ho11, hg11⟩
    replace E : Hid (Below w3.heap.size w3 w11) := Lib.hid (own_below E.out (O.out.rebase hz4) hg11 hz10)
    replace O := Lib.hid ho11
    clear ho11 hg11
    go_wp2_with fail
    refine (c_heldIntS A5 cap5 rs.length _ 1 O.out (by omega) (by omega) (by omega)).mono ?_
    rintro e w12 ⟨rfl, hb⟩
    replace E := Lib.hid (Ext.trans E.out hb)
    replace O := Lib.hid (own_ext O.out hb)
    clear hb
    go_wp2_with fail
    refine (c_toTurnS A cap ts _ (H3.out.ext ptR_stab E.out) hn).mono ?_
    rintro e w13 ⟨b13, rfl, _, hr13, hb⟩
    replace E := Lib.hid (Ext.trans E.out hb)
    replace O := Lib.hid (own_ext O.out hb)
    clear hb
    have R13 := Lib.hid (hr13)
    clear hr13
    go_wp2_with fail
    refine (c_iWorkShare n W _ _ ts _ (row_pts R13.out) (by omega)).mono ?_
    rw [HS.out]
    rintro e w14 ⟨A14, cap14, rfl, ho14, hb⟩
    replace E := Lib.hid (Ext.trans E.out hb)
    replace O := Lib.hid (own_ext O.out hb)
    replace R13 := Lib.hid (R13.out.ext hb)
    have lR13 := R13.out.lt
    clear hb
    have O2 := Lib.hid (ho14)
    clear ho14
    go_wp2_with fail
    refine (c_eqIntS A14 A3 cap14 cap3 rs _ (own_in (R := intR) (enc := intC) intC_len (by decide) O2.out (fun _ => rfl)) (P.out.ext intR_stab E.out) (by omega)).mono ?_
    rintro e w15 ⟨rfl, hb⟩
    replace E := Lib.hid (Ext.trans E.out hb)
    replace O := Lib.hid (own_ext O.out hb)
    replace R13 := Lib.hid (R13.out.ext hb)
    have lR13 := R13.out.lt
    replace O2 := Lib.hid (own_ext O2.out hb)
    clear hb
    go_wp2_with fail
    refine (c_heldIntS A5 cap5 rs.length _ 1 O.out (by omega) (by omega) (by omega)).mono ?_
    rintro e w16 ⟨rfl, hb⟩
    replace E := Lib.hid (Ext.trans E.out hb)
    replace O := Lib.hid (own_ext O.out hb)
    replace R13 := Lib.hid (R13.out.ext hb)
    have lR13 := R13.out.lt
    replace O2 := Lib.hid (own_ext O2.out hb)
    clear hb
    go_wp2
    go_ret
    exact ⟨rfl, Ext.trans E3.out E.out⟩
  · have hs : (if (1048576 : Int) - ts.length < 0 then (-1 : Int) else 1048576 - ts.length) = -1 := if_pos (by omega)
    have Hs := Lib.hid hs
    clear hs h
    go_enter Try.func6, Try.ntmps6
    go_wp2_with fail
    refine (c_szTurnS A ts.length cap 1048576 _ (by omega) (by omega) (by omega)).mono ?_
    rw [Hs.out]
    rintro e w' ⟨rfl, rfl⟩
    go_wp2
    go_ret
    exact ⟨rfl, Below.refl _ _⟩


theorem opens2 : Opens Try.prog 37 (slR ptR 2 ) :=  opens_slice Try.underlying37 (by kernel_rfl) (by decide) (opens_pt Try.underlying55 (by kernel_rfl) (by kernel_rfl) (by kernel_rfl) (by kernel_rfl) (by kernel_rfl) (by kernel_rfl) (by kernel_rfl))
set_option maxRecDepth 100000 in
theorem lifted (os : Os) (started : os.Started) (H : Type) (enc : TypeId × Value → H) :
    ReturnsInHanded {} Try.checked os 6 .any (Rows.fnExactWorkShareSpec.pre6 enc Try.prog Try.f6 Rows.fnExactWorkShareRow.domain false) (Rows.fnExactWorkShareSpec.post enc Try.prog Try.f6 false true false false) := by
  refine returnsInHanded_of_change (C := Try.checked) own started (by kernel_rfl) Try.func6
    (ChangeSpec.witness6 (enc := enc) (C := Try.checked) false ⟨#[], #[.int .i64 0, .int .i64 0, .slice none 0 0], []⟩ 8 (by kernel_rfl) (by kernel_rfl) (by kernel_rfl) (by kernel_rfl)) ?_
  intro W base args ds gs before hval0 hW hcnd _
  have hval : ∀ (j : Nat) t v, Try.f6.params[j]? = some t → args[j]? = some v → Value.okWide Try.prog W .any base t v := hval0
  have hW' := hW
  obtain ⟨p, q, hA0, hV, rfl, hfz, hnd⟩ := hW
  have hA : DataW.TrodAll enc Try.prog W 0 (fun _ => true) true Try.f6.params.toList args.toList ds p := hA0
  rw [Try.params6] at hA hval
  obtain ⟨v0, vs0, d0, ds0, p0, q0, hargs, rfl, rfl, h0, r0⟩ := trodAll_cons hA
  obtain ⟨v1, vs1, d1, ds1, p1, q1, rfl, rfl, rfl, h1, r1⟩ := trodAll_cons r0
  obtain ⟨v2, vs2, d2, ds2, p2, q2, rfl, rfl, rfl, h2, r2⟩ := trodAll_cons r1
  obtain ⟨rfl, rfl, rfl⟩ := trodAll_nil r2
  obtain rfl : args = #[v0, v1, v2] := by cases args; simp_all
  obtain ⟨rfl, rfl, rfl⟩ := trodVars_none hV
  obtain ⟨n0, rfl⟩ := okWide_int Try.underlying3 (hval 0 3 v0 rfl rfl)
  obtain ⟨n1, rfl⟩ := okWide_int Try.underlying3 (hval 1 3 v1 rfl rfl)
  obtain ⟨a2, len2, cap2, rfl⟩ := okWide_slice Try.underlying37 (hval 2 37 v2 rfl rfl)
  have k0 := h0
  have lt0 : ∀ x ∈ p0, x.block < W.heap.size := by obtain ⟨m, hm⟩ := k0; exact DataW.trod_lt m _ _ _ hm
  have k1 := h1
  have lt1 : ∀ x ∈ p1, x.block < W.heap.size := by obtain ⟨m, hm⟩ := k1; exact DataW.trod_lt m _ _ _ hm
  have k2 := h2
  have lt2 : ∀ x ∈ p2, x.block < W.heap.size := by obtain ⟨m, hm⟩ := k2; exact DataW.trod_lt m _ _ _ hm
  obtain ⟨xs2, rfl, w2, wl2, wc2⟩ := open_arg rfl opens2 h2
  clear hA0 hval0
  refine (walk n0 n1 a2 cap2 xs2 W w2 wl2 wc2).mono fun e W' ⟨he, bel⟩ => ?_
  subst he
  exact ⟨_, rfl, _, _, _, [], _, [], hW', trodAll_mk1 (shut_bool Try.underlying4 _), (trodAll_cons_mk (Below.trod laidOut (by kernel_rfl) (of_decide_eq_true (by kernel_rfl)) k0 bel lt0) (trodAll_cons_mk (Below.trod laidOut (by kernel_rfl) (of_decide_eq_true (by kernel_rfl)) k1 bel lt1) (trodAll_cons_mk (Below.trod laidOut (by kernel_rfl) (of_decide_eq_true (by kernel_rfl)) k2 bel lt2) trodAll_mk0))), rfl, bel.frame _, fun h => by cases h⟩
theorem over : Rows.fnExactWorkShareRow.holds Try.pinned (OpenSpec.ofChange Rows.fnExactWorkShareSpec) :=
  OpenClaim.holds_of_wide 6 Try.f6 rfl rfl rfl rfl rfl rfl rfl ⟨rfl, rfl, rfl, rfl, rfl⟩ rfl rfl rfl rfl rfl (by kernel_rfl) Try.func6 (by kernel_rfl)
    (of_decide_eq_true (by kernel_rfl)) (by unfold Func.isWrapper; first | (rw [if_pos (by decide +kernel)]; kernel_rfl) | (rw [if_neg (by decide +kernel)]; exact ⟨rfl, rfl⟩))
    (fun os started H enc _ => lifted os started H enc)

theorem proved : Rows.FnExactWorkShareSaid := over

end Go.Proofs.Ytnmnomhoghkdjaa.fnExactWorkShare
