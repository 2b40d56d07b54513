/- CleanRing of the program and CleanRing of the reference return the same for every polygon, in memory of its own; the argument is left as it was. -/
import Derived.Test.YtonilmpodijgeaaClean2
import Derived.Test.YtonilmpodijgeaaMark
import Derived.Test.YtonilmpodijgeaaOpen
namespace Go.Proofs.Ytonilmpodijgeaa.fnExactCleanRing
open Go Go.RowKit Go.ChangeShapes Go.WideShapes Go.ChangeAt Go.Deep Reg

theorem own : ownKnob Try.prog.godebug = none := by kernel_rfl
theorem laidOut : laidOutB Try.prog = true := by kernel_rfl
theorem cleanR_len (ps : List Pt) : (cleanR ps).length ≤ ps.length := by
  have key : ∀ (k : Nat) (xs : List Pt), (cleanN k xs).length ≤ xs.length := by
    intro k
    induction k with
    | zero => intro xs; exact Nat.le_refl _
    | succ k ih =>
      intro xs
      simp only [cleanN]
      split
      · exact Nat.le_refl _
      · rename_i i hi
        exact Nat.le_trans (ih _) (List.length_eraseIdx_le ..)
  unfold cleanR
  split
  · exact key _ _
  · simp
theorem row_pts {w : World} {b : Nat} {e : TypeId} {ps : List Pt} (h : Row w b e (ps.flatMap ptC)) : Pts w (some ⟨b, 0, none⟩) ps := Row.in_ (rest := []) (enc := ptC) ptC_len (by simpa using h) (fun _ _ => rfl)
theorem row_slok {n : Nat} {b : Nat} (h : n ≤ 1000000000) : SlOk (some ⟨b, 0, none⟩) n n := ⟨fun h => (by cases h), Nat.le_refl _, by unfold maxLen; omega⟩

set_option maxRecDepth 100000 in
set_option maxHeartbeats 4000000 in
theorem walk (A : Option Addr) (cap : Nat) (ps : List Pt) (w : World) (h : Pts w A ps) (hl : ps.length ≤ maxLen) :
    Calls Try.prog 6 #[.slice A ps.length cap] w fun e w' => e = .returned (.bool true) ∧ Below w.heap.size w w' := by
  unfold maxLen at hl
  by_cases hn : ps.length ≤ 1048576
  · have hs : (if (1048576 : Int) - ps.length < 0 then (-1 : Int) else 1048576 - ps.length) = 1048576 - ps.length := if_neg (by omega)
    have Hs := Lib.hid hs
    have HP := Lib.hid h
    have hcl := cleanR_len ps
    generalize hR : cleanR ps = rs at *
    have HR := Lib.hid hR
    clear hs h hR
    go_enter Try.func6, Try.ntmps6
    go_wp2_with fail
    refine (c_szPointS A ps.length cap 1048576 w (by omega) (by omega) (by omega)).mono ?_; rw [Hs.out]; rintro e w0 ⟨rfl, rfl⟩
    go_wp2_with fail
    refine (c_toPointS A cap ps w HP.out hn).mono ?_; rintro e w1 ⟨b1, rfl, _, hr1, hb1⟩
    have R1 := Lib.hid hr1
    have E1 := Lib.hid hb1
    clear hr1 hb1
    go_wp2_with fail
    refine (c_sCleanRing _ _ ps w1 (row_pts R1.out) hn).mono ?_; rw [HR.out]; rintro e w2 ⟨A2, cap2, rfl, hp2, hb2⟩
    have P2 := Lib.hid hp2
    have E2 := Lib.hid (Ext.trans E1.out hb2)
    clear hp2 hb2
    go_wp2_with fail
    refine (c_toPointS A cap ps w2 (HP.out.ext ptR_stab E2.out) hn).mono ?_; rintro e w3 ⟨b3, rfl, hge3, hr3, hb3⟩
    have R3 := Lib.hid hr3
    have E3 := Lib.hid hb3
    have hlt3 : b3 < w3.heap.size := R3.out.lt
    clear hr3 hb3
    go_wp2_with fail
    refine (c_iCleanRing _ _ ps w3 (row_pts R3.out) (row_slok (by omega)) hn).mono ?_; rw [HR.out]; rintro e w4 ⟨A4, cap4, rfl, ho4, hb4⟩
    have O4 := Lib.hid ho4
    have E4 := Lib.hid (Ext.trans E3.out hb4)
    have R4 := Lib.hid (R3.out.ext hb4)
    have hz4 : w3.heap.size ≤ w4.heap.size := hb4.size
    clear ho4 hb4
    have hi4 : Hid (Pts w4 A4 rs) := Lib.hid (own_in (R := ptR) (enc := ptC) ptC_len (by decide) O4.out (fun _ => rfl))
    go_wp2_with fail
    refine (c_eqPointS A4 A2 cap4 cap2 rs rs w4 hi4.out (P2.out.ext ptR_stab E4.out) (by omega) (by omega)).mono ?_
    rw [decide_eq_true (rfl : rs = rs)]; rintro e w5 ⟨rfl, hb5⟩
    have O5 := Lib.hid (own_ext O4.out hb5)
    have E5 := Lib.hid (Ext.trans E4.out hb5)
    have R5 := Lib.hid (R4.out.ext hb5)
    clear hb5
    go_wp2_with fail
    refine (c_toPointS A cap ps w5 (HP.out.ext ptR_stab (Ext.trans E2.out E5.out)) hn).mono ?_; rintro e w6 ⟨b6, rfl, _, hr6, hb6⟩
    have R6 := Lib.hid hr6
    have O6 := Lib.hid (own_ext O5.out hb6)
    have E6 := Lib.hid (Ext.trans E5.out hb6)
    have S6 := Lib.hid (R5.out.ext hb6)
    clear hr6 hb6
    go_wp2_with fail
    refine (c_eqPointS _ _ _ _ ps ps w6 (row_pts S6.out) (row_pts R6.out) (by omega) (by omega)).mono ?_
    rw [decide_eq_true (rfl : ps = ps)]; rintro e w7 ⟨rfl, hb7⟩
    have O7 := Lib.hid (own_ext O6.out hb7)
    have E7 := Lib.hid (Ext.trans E6.out hb7)
    have S7 := Lib.hid (S6.out.ext hb7)
    clear hb7
    have X7 : Hid (Has w7 w2.heap.size 42 2 (.slice (some ⟨b3, 0, none⟩) ps.length ps.length) ps.length (ps.flatMap ptC)) := Lib.hid (own_of_row S7.out hge3 (flat_len ptC_len ps) (by omega))
    have hz7 : w2.heap.size ≤ w7.heap.size := E7.out.size
    go_wp2_with fail
    refine (c_markPointS X7.out 1 (by omega) (by omega) (by omega)).mono ?_
    rintro e w8 ⟨rfl, hx8, hg8⟩
    have E8 : Hid (Ext w2 w8) := Lib.hid (Below.trans E7.out (own_below (Below.refl w2.heap.size w7) X7.out hg8 hz7))
    have O8 : Hid (Has w8 w3.heap.size 42 2 (.slice A4 rs.length cap4) rs.length (rs.flatMap ptC)) := Lib.hid (O7.out.kept hg8 (by
      cases hk : (Value.slice A4 rs.length cap4).ownBlock with
      | none => exact .inl rfl
      | some g => exact .inr (fun he => by
          have := (O7.out.lt g hk).1
          simp [Value.ownBlock] at he
          omega)))
    have I8 : Hid (Pts w8 A4 rs) := Lib.hid (own_in (R := ptR) (enc := ptC) ptC_len (by decide) O8.out (fun _ => rfl))
    clear hx8 hg8
    go_wp2_with fail
    refine (c_eqPointS A4 A2 cap4 cap2 rs rs w8 I8.out (P2.out.ext ptR_stab E8.out) (by omega) (by omega)).mono ?_
    rw [decide_eq_true (rfl : rs = rs)]; rintro e w9 ⟨rfl, hb9⟩
    have O9 := Lib.hid (own_ext O8.out hb9)
    have E9 := Lib.hid (Ext.trans E8.out hb9)
    have hz9 : w2.heap.size ≤ w9.heap.size := E9.out.size
    clear hb9
    go_wp2_with fail
    refine (c_markPointS O9.out 1 (by omega) (by omega) (by omega)).mono ?_
    rintro e w10 ⟨rfl, ho10, hg10⟩
    have O10 := Lib.hid ho10
    have E10 : Hid (Ext w2 w10) := Lib.hid (Below.trans E9.out (own_below (Below.refl w2.heap.size w9) (O9.out.rebase E3.out.size) hg10 hz9))
    have I10 : Hid (Pts w10 A4 (mkP 1 rs.length)) := Lib.hid (by
      have := own_in (R := ptR) (enc := ptC) (xs := mkP 1 rs.length) ptC_len (by decide) O10.out (fun _ => rfl)
      exact this)
    clear ho10 hg10
    go_wp2_with fail
    refine (c_heldPointS A4 cap4 rs.length w10 1 I10.out (by omega) (by omega) (by omega)).mono ?_
    rintro e w11 ⟨rfl, hb11⟩
    have E11 := Lib.hid (Ext.trans E10.out hb11)
    have I11 := Lib.hid (I10.out.ext ptR_stab hb11)
    clear hb11
    go_wp2_with fail
    refine (c_toPointS A cap ps w11 (HP.out.ext ptR_stab (Ext.trans E2.out E11.out)) hn).mono ?_; rintro e w12 ⟨b12, rfl, _, hr12, hb12⟩
    have R12 := Lib.hid hr12
    have E12 := Lib.hid (Ext.trans E11.out hb12)
    have I12 := Lib.hid (I11.out.ext ptR_stab hb12)
    clear hr12 hb12
    go_wp2_with fail
    refine (c_iCleanRing _ _ ps w12 (row_pts R12.out) (row_slok (by omega)) hn).mono ?_; rw [HR.out]; rintro e w13 ⟨A13, cap13, rfl, ho13, hb13⟩
    have J13 : Hid (Pts w13 A13 rs) := Lib.hid (own_in (R := ptR) (enc := ptC) ptC_len (by decide) ho13 (fun _ => rfl))
    have E13 := Lib.hid (Ext.trans E12.out hb13)
    have I13 := Lib.hid (I12.out.ext ptR_stab hb13)
    clear ho13 hb13
    go_wp2_with fail
    refine (c_eqPointS A13 A2 cap13 cap2 rs rs w13 J13.out (P2.out.ext ptR_stab E13.out) (by omega) (by omega)).mono ?_
    rw [decide_eq_true (rfl : rs = rs)]; rintro e w14 ⟨rfl, hb14⟩
    have E14 := Lib.hid (Ext.trans E13.out hb14)
    have I14 := Lib.hid (I13.out.ext ptR_stab hb14)
    clear hb14
    go_wp2_with fail
    refine (c_heldPointS A4 cap4 rs.length w14 1 I14.out (by omega) (by omega) (by omega)).mono ?_
    rintro e w15 ⟨rfl, hb15⟩
    have E15 := Lib.hid (Ext.trans E14.out hb15)
    clear hb15
    go_wp2
    go_ret
    exact ⟨rfl, Ext.trans E2.out E15.out⟩
  · have hs : (if (1048576 : Int) - ps.length < 0 then (-1 : Int) else 1048576 - ps.length) = -1 := if_pos (by omega)
    have Hs := Lib.hid hs
    clear hs
    go_enter Try.func6, Try.ntmps6
    go_wp2_with fail
    refine (c_szPointS A ps.length cap 1048576 w (by omega) (by omega) (by omega)).mono ?_; rw [Hs.out]; rintro e w0 ⟨rfl, rfl⟩
    go_wp2
    go_ret
    exact ⟨rfl, Below.refl _ _⟩

theorem opens0 : Opens Try.prog 22 (slR ptR 2 ) :=  opens_slice Try.underlying22 (by kernel_rfl) (by decide) (opens_pt Try.underlying40 (by kernel_rfl) (by kernel_rfl) (by kernel_rfl) (by kernel_rfl) (by kernel_rfl) (by kernel_rfl) (by kernel_rfl))
set_option maxRecDepth 100000 in
theorem lifted (os : Os) (started : os.Started) (H : Type) (enc : TypeId × Value → H) :
    ReturnsInHanded {} Try.checked os 6 .any (Rows.fnExactCleanRingSpec.pre6 enc Try.prog Try.f6 Rows.fnExactCleanRingRow.domain false) (Rows.fnExactCleanRingSpec.post enc Try.prog Try.f6 false true false false) := by
  refine returnsInHanded_of_change (C := Try.checked) own started (by kernel_rfl) Try.func6
    (ChangeSpec.witness6 (enc := enc) (C := Try.checked) false ⟨#[], #[.slice none 0 0], []⟩ 8 (by kernel_rfl) (by kernel_rfl) (by kernel_rfl) (by kernel_rfl)) ?_
  intro W base args ds gs before hval0 hW hcnd _
  have hval : ∀ (j : Nat) t v, Try.f6.params[j]? = some t → args[j]? = some v → Value.okWide Try.prog W .any base t v := hval0
  have hW' := hW
  obtain ⟨p, q, hA0, hV, rfl, hfz, hnd⟩ := hW
  have hA : DataW.TrodAll enc Try.prog W 0 (fun _ => true) true Try.f6.params.toList args.toList ds p := hA0
  rw [Try.params6] at hA hval
  obtain ⟨v0, vs0, d0, ds0, p0, q0, hargs, rfl, rfl, h0, r0⟩ := trodAll_cons hA
  obtain ⟨rfl, rfl, rfl⟩ := trodAll_nil r0
  obtain rfl : args = #[v0] := by cases args; simp_all
  obtain ⟨rfl, rfl, rfl⟩ := trodVars_none hV
  obtain ⟨a0, len0, cap0, rfl⟩ := okWide_slice Try.underlying22 (hval 0 22 v0 rfl rfl)
  have k0 := h0
  have lt0 : ∀ x ∈ p0, x.block < W.heap.size := by obtain ⟨m, hm⟩ := k0; exact DataW.trod_lt m _ _ _ hm
  obtain ⟨xs0, rfl, w0, wl0⟩ := open_arg rfl opens0 h0
  clear hA0 hval0
  refine (walk a0 cap0 xs0 W w0 wl0).mono fun e W' ⟨he, bel⟩ => ?_
  subst he
  exact ⟨_, rfl, _, _, _, [], _, [], hW', trodAll_mk1 (shut_bool Try.underlying4 _), (trodAll_cons_mk (Below.trod laidOut (by kernel_rfl) (of_decide_eq_true (by kernel_rfl)) k0 bel lt0) trodAll_mk0), rfl, bel.frame _, fun h => by cases h⟩
theorem over : Rows.fnExactCleanRingRow.holds Try.pinned (OpenSpec.ofChange Rows.fnExactCleanRingSpec) :=
  OpenClaim.holds_of_wide 6 Try.f6 rfl rfl rfl rfl rfl rfl rfl ⟨rfl, rfl, rfl, rfl, rfl⟩ rfl rfl rfl rfl rfl (by kernel_rfl) Try.func6 (by kernel_rfl)
    (of_decide_eq_true (by kernel_rfl)) (by unfold Func.isWrapper; first | (rw [if_pos (by decide +kernel)]; kernel_rfl) | (rw [if_neg (by decide +kernel)]; exact ⟨rfl, rfl⟩))
    (fun os started H enc _ => lifted os started H enc)

theorem proved : Rows.FnExactCleanRingSaid := over

end Go.Proofs.Ytonilmpodijgeaa.fnExactCleanRing
