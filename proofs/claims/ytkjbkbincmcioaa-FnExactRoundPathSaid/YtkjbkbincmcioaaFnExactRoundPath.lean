/- RoundPath of the program and RoundPath of the reference return the same for every middle and radius, in memory of their own. -/
import Derived.Test.YtkjbkbincmcioaaRoundI
import Derived.Test.YtkjbkbincmcioaaOpen
namespace Go.Proofs.Ytkjbkbincmcioaa.fnExactRoundPath
open Go Go.RowKit Go.ChangeShapes Go.WideShapes Go.ChangeAt Go.Deep Reg

theorem own : ownKnob Try.prog.godebug = none := by kernel_rfl
theorem laidOut : laidOutB Try.prog = true := by kernel_rfl

set_option maxRecDepth 100000 in
set_option maxHeartbeats 2000000 in
theorem walk (b : Pt) (us : List Value) (r : Int) (w : World) (hu : ptR w b us) :
    Calls Try.prog 3 #[.agg us.toArray, .int .i64 r] w fun e w' => e = .returned (.bool true) ∧ Below w.heap.size w w' := by
  obtain rfl : us = [.int .i64 b.1, .int .i64 b.2] := hu; obtain ⟨x, y⟩ := b
  have Hs : Hid (∀ v ∈ (roundP (x, y) r).1, v.2.length ≤ 1000) := Lib.hid (fun v hv => Nat.le_trans (roundP_small _ _ v hv) (by decide))
  have Hn : Hid ((roundP (x, y) r).1.length ≤ 1000) := Lib.hid (Nat.le_trans (roundP_len _ _) (by decide))
  generalize hr : roundP (x, y) r = R at *
  have Hr := Lib.hid hr
  clear hr
  obtain ⟨vs, ok⟩ := R
  dsimp only at Hs Hn
  have hn := Hn.out
  have Hs1 : Hid (∀ v ∈ vs, v.2.length ≤ 1000000000000) := Lib.hid (fun v hv => Nat.le_trans (Hs.out v hv) (by decide))
  have Hs2 : Hid (∀ v ∈ vs, v.2.length ≤ 1000000) := Lib.hid (fun v hv => Nat.le_trans (Hs.out v hv) (by decide))
  have Hbd := Lib.hid (endV_bd 1 vs Hs2.out)
  obtain ⟨hbd1, hbd2⟩ := Hbd.out
  go_enter Try.func3, Try.ntmps3
  go_wp2_with fail
  have E0 : Ext w (w.alloc (.cells #[.int .i64 x, .int .i64 y] 23)) := ext_alloc _ _
  have R0 : Row (w.alloc (.cells #[.int .i64 x, .int .i64 y] 23)) w.heap.size 23 [.int .i64 x, .int .i64 y] := Row.new w 23 [.int .i64 x, .int .i64 y]
  generalize w.alloc (.cells #[.int .i64 x, .int .i64 y] 23) = wa at *
  have Wa := Lib.hid E0
  have Ra := Lib.hid R0
  clear E0 R0
  refine (c_toPoint (x, y) _).mono ?_; rintro e w1 ⟨rfl, hb1⟩
  have E1 := Lib.hid (Ext.trans Wa.out hb1)
  have Ra1 := Lib.hid (Ra.out.ext hb1)
  clear hb1
  go_wp2_with fail
  refine (c_sRoundPath (x, y) r _).mono ?_; rw [Hr.out]; rintro e w2 ⟨A2, cap2, ss2, rfl, ho2, hb2⟩
  have E2 := Lib.hid (Ext.trans E1.out hb2)
  have V2 := Lib.hid ho2.in_
  have Ra2 := Lib.hid (Ra1.out.ext hb2)
  have S2 : w.heap.size ≤ w2.heap.size := E2.out.size
  have c0 := Ra2.out.cell_of (i := 0) rfl; have c1 := Ra2.out.cell_of (i := 1) rfl
  clear ho2 hb2
  go_wp2_with fail
  refine (c_toPoint (x, y) _).mono ?_; rintro e w3 ⟨rfl, hb3⟩
  have E3 := Lib.hid (Ext.trans E2.out hb3)
  have Ra3 := Lib.hid (Ra2.out.ext hb3)
  have V3 := Lib.hid (V2.out.ext verbR_stab hb3)
  have S3 : w2.heap.size ≤ w3.heap.size := hb3.size
  clear hb3 c0 c1
  go_wp2_with fail
  refine (c_iRoundPath (x, y) r _).mono ?_; rw [Hr.out]; rintro e w4 ⟨A4, cap4, ss4, rfl, ho4, hb4⟩
  have O4 := Lib.hid ho4
  have E4 := Lib.hid hb4
  have V4 := Lib.hid (V3.out.ext verbR_stab hb4)
  clear ho4 hb4
  go_wp2_with fail
  refine (c_eqVerbS A4 A2 cap4 cap2 vs vs w4 O4.out.in_ V4.out (by omega) (by omega) Hs1.out Hs1.out).mono ?_
  rw [decide_eq_true (rfl : vs = vs)]; rintro e w5 ⟨rfl, hb5⟩
  have O5 := Lib.hid (O4.out.ext hb5)
  have E5 := Lib.hid (Ext.trans E4.out hb5)
  have S5 : w3.heap.size ≤ w5.heap.size := E5.out.size
  clear hb5
  go_wp2_with fail
  refine (c_markVerbS O5.out (by omega) (by omega) Hs2.out).mono ?_
  rintro e w6 ⟨rfl, ho6, hb6⟩
  have O6 := Lib.hid ho6
  have E6 : Hid (Below w3.heap.size w3 w6) := Lib.hid (Below.trans E5.out hb6)
  have X6 : Hid (Ext w w6) := Lib.hid (Below.trans E3.out (Below.mono E6.out (by omega)))
  have V6 := Lib.hid (V3.out.ext verbR_stab E6.out)
  have Ra6 := Lib.hid (Ra3.out.below E6.out Ra3.out.lt)
  clear ho6 hb6
  have Hi6 := Lib.hid (show Vbs w6 A4 (markV 1 vs) from O6.out.vbs_marked)
  go_wp2_with fail
  refine (c_heldVerbS A4 cap4 vs w6 Hi6.out (by omega) Hs2.out).mono ?_
  rintro e w7 ⟨rfl, hb7⟩
  have X7 := Lib.hid (Ext.trans X6.out hb7)
  have V7 := Lib.hid (V6.out.ext verbR_stab hb7)
  have Hi7 := Lib.hid (Hi6.out.ext verbR_stab hb7)
  have Ra7 := Lib.hid (Ra6.out.ext hb7)
  have c0 := Ra7.out.cell_of (i := 0) rfl; have c1 := Ra7.out.cell_of (i := 1) rfl
  clear hb7
  go_wp2_with fail
  refine (c_toPoint (x, y) _).mono ?_; rintro e w8 ⟨rfl, hb8⟩
  have X8 := Lib.hid (Ext.trans X7.out hb8)
  have V8 := Lib.hid (V7.out.ext verbR_stab hb8)
  have Hi8 := Lib.hid (Hi7.out.ext verbR_stab hb8)
  clear hb8 c0 c1
  go_wp2_with fail
  refine (c_iRoundPath (x, y) r _).mono ?_; rw [Hr.out]; rintro e w9 ⟨A9, cap9, ss9, rfl, ho9, hb9⟩
  have X9 := Lib.hid (Ext.trans X8.out hb9)
  have V9 := Lib.hid (V8.out.ext verbR_stab hb9)
  have Hi9 := Lib.hid (Hi8.out.ext verbR_stab hb9)
  have I9 := Lib.hid ho9.in_
  clear ho9 hb9
  go_wp2_with fail
  refine (c_eqVerbS A9 A2 cap9 cap2 vs vs w9 I9.out V9.out (by omega) (by omega) Hs1.out Hs1.out).mono ?_
  rw [decide_eq_true (rfl : vs = vs)]; rintro e w10 ⟨rfl, hb10⟩
  have X10 := Lib.hid (Ext.trans X9.out hb10)
  have Hi10 := Lib.hid (Hi9.out.ext verbR_stab hb10)
  clear hb10
  go_wp2_with fail
  refine (c_heldVerbS A4 cap4 vs w10 Hi10.out (by omega) Hs2.out).mono ?_
  rintro e w11 ⟨rfl, hb11⟩
  have X11 := Lib.hid (Ext.trans X10.out hb11)
  clear hb11
  go_wp2
  go_ret
  exact ⟨rfl, X11.out⟩


theorem opens0 : Opens Try.prog 23 (ptR ) :=  opens_pt Try.underlying23 (by kernel_rfl) (by kernel_rfl) (by kernel_rfl) (by kernel_rfl) (by kernel_rfl) (by kernel_rfl) (by kernel_rfl) 
set_option maxRecDepth 100000 in
theorem lifted (os : Os) (started : os.Started) (H : Type) (enc : TypeId × Value → H) :
    ReturnsInHanded {} Try.checked os 3 .any (Rows.fnExactRoundPathSpec.pre6 enc Try.prog Try.f3 Rows.fnExactRoundPathRow.domain false) (Rows.fnExactRoundPathSpec.post enc Try.prog Try.f3 false true false false) := by
  refine returnsInHanded_of_change (C := Try.checked) own started (by kernel_rfl) Try.func3
    (ChangeSpec.witness6 (enc := enc) (C := Try.checked) false ⟨#[], #[ .agg #[.int .i64 0, .int .i64 0], .int .i64 0], []⟩ 8 (by kernel_rfl) (by kernel_rfl) (by kernel_rfl) (by kernel_rfl)) ?_
  intro W base args ds gs before hval0 hW hcnd _
  have hval : ∀ (j : Nat) t v, Try.f3.params[j]? = some t → args[j]? = some v → Value.okWide Try.prog W .any base t v := hval0
  have hW' := hW
  obtain ⟨p, q, hA0, hV, rfl, hfz, hnd⟩ := hW
  have hA : DataW.TrodAll enc Try.prog W 0 (fun _ => true) true Try.f3.params.toList args.toList ds p := hA0
  rw [Try.params3] at hA hval
  obtain ⟨v0, vs0, d0, ds0, p0, q0, hargs, rfl, rfl, h0, r0⟩ := trodAll_cons hA
  obtain ⟨v1, vs1, d1, ds1, p1, q1, rfl, rfl, rfl, h1, r1⟩ := trodAll_cons r0
  obtain ⟨rfl, rfl, rfl⟩ := trodAll_nil r1
  obtain rfl : args = #[v0, v1] := by cases args; simp_all
  obtain ⟨rfl, rfl, rfl⟩ := trodVars_none hV
  obtain ⟨n1, rfl⟩ := okWide_int Try.underlying3 (hval 1 3 v1 rfl rfl)
  have k0 := h0
  have lt0 : ∀ x ∈ p0, x.block < W.heap.size := by obtain ⟨m, hm⟩ := k0; exact DataW.trod_lt m _ _ _ hm
  have k1 := h1
  have lt1 : ∀ x ∈ p1, x.block < W.heap.size := by obtain ⟨m, hm⟩ := k1; exact DataW.trod_lt m _ _ _ hm
  obtain ⟨x0, us0, rfl, r0⟩ := open_struct_arg Try.underlying23 opens0 (hval 0 23 _ rfl rfl) h0
  clear hA0 hval0
  refine (walk x0 us0 n1 W r0).mono fun e W' ⟨he, bel⟩ => ?_
  subst he
  exact ⟨_, rfl, _, _, _, [], _, [], hW', trodAll_mk1 (shut_bool Try.underlying4 _), (trodAll_cons_mk (Below.trod laidOut (by kernel_rfl) (of_decide_eq_true (by kernel_rfl)) k0 bel lt0) (trodAll_cons_mk (Below.trod laidOut (by kernel_rfl) (of_decide_eq_true (by kernel_rfl)) k1 bel lt1) trodAll_mk0)), rfl, bel.frame _, fun h => by cases h⟩
theorem over : Rows.fnExactRoundPathRow.holds Try.pinned (OpenSpec.ofChange Rows.fnExactRoundPathSpec) :=
  OpenClaim.holds_of_wide 3 Try.f3 rfl rfl rfl rfl rfl rfl rfl ⟨rfl, rfl, rfl, rfl, rfl⟩ rfl rfl rfl rfl rfl (by kernel_rfl) Try.func3 (by kernel_rfl)
    (of_decide_eq_true (by kernel_rfl)) (by unfold Func.isWrapper; first | (rw [if_pos (by decide +kernel)]; kernel_rfl) | (rw [if_neg (by decide +kernel)]; exact ⟨rfl, rfl⟩))
    (fun os started H enc _ => lifted os started H enc)

theorem proved : Rows.FnExactRoundPathSaid := over

end Go.Proofs.Ytkjbkbincmcioaa.fnExactRoundPath
