/- A convex polygon winds at most once about every point, against the sign of its area, which is not 0, whatever the bytes that it is drawn from. -/
import Derived.Test.YtalicpgnjpgloaaConvG
import Derived.Test.YtalicpgnjpgloaaConvW
import Derived.Test.YtalicpgnjpgloaaConvI
import Derived.Test.YtalicpgnjpgloaaCvxW
import Derived.Test.YtalicpgnjpgloaaWindA
import Derived.Test.YtalicpgnjpgloaaAreaS
import Derived.Test.YtalicpgnjpgloaaOrg
import Derived.Test.YtalicpgnjpgloaaOpen
namespace Go.Proofs.Ytalicpgnjpgloaa.fnIsConvexWinding
open Go Go.RowKit Go.ChangeShapes Go.WideShapes Go.ChangeAt Go.Deep Reg
attribute [local go_sem] calmAt calmUpon

theorem own : ownKnob Try.prog.godebug = none := by kernel_rfl
theorem laidOut : laidOutB Try.prog = true := by kernel_rfl
/-- A row of one polygon. -/
theorem rgs_one {w : World} {b : Nat} {e : TypeId} {v : Value} {r : Rg} (h : Row w b e [v]) (hr : rgR w r [v]) : Rgs w (some ⟨b, 0, none⟩) [r] := by
  intro _
  refine ⟨b, 0, rfl, fun k hk => ?_⟩
  obtain rfl : k = 0 := by simp at hk; omega
  refine ⟨[v], hr, rfl, fun j u hu => ?_⟩
  obtain rfl : j = 0 := by
    have := (List.getElem?_eq_some_iff.1 hu).1
    simp at this; omega
  simp at hu; subst hu
  exact h.cell_of (i := 0) rfl
/-- What holds of a polygon that the program calls convex. -/
theorem facts {ps : List Pt} (h : implConvex ps = true) : areaR [ps] ≠ 0 ∧ (-1000000000 ≤ areaR [ps] ∧ areaR [ps] ≤ 1000000000) ∧ ∀ x y, (-1 ≤ windR [ps] x y ∧ windR [ps] x y ≤ 1) ∧ windR [ps] x y * areaR [ps] ≤ 0 := by
  have h2 := h
  unfold implConvex at h2
  simp only [Bool.and_eq_true, decide_eq_true_eq] at h2
  have hv := h2.1
  have hl := psB_len hv
  have hrg : rgsB [ps] = true := by
    rw [rgsB_iff]
    exact ⟨fun q hq => by simp at hq; subst hq; exact ⟨by omega, hv⟩, by simp, by simp [corners]; omega⟩
  obtain ⟨c1, c2⟩ := convex_wind h
  have ha : areaR [ps] = areaL [ps] := by unfold areaR; rw [if_pos hrg]
  refine ⟨by rw [ha]; exact c1, ?_, fun x y => ?_⟩
  · rw [ha]
    unfold areaL
    rw [sumS_one]
    have hb := sumE_bd (f := areaE) (r := ps) (B := 8000000) (fun a ha b hb => by
      have p1 := vp_of hv ha
      have p2 := vp_of hv hb
      exact areaE_bd ⟨by omega, by omega⟩ ⟨by omega, by omega⟩)
    omega
  · rw [ha]
    unfold windR
    split
    · exact c2 x y
    · simp
set_option maxRecDepth 100000 in
set_option maxHeartbeats 8000000 in
theorem walk (A : Option Addr) (cap : Nat) (bs : List Int) (w : World) (h : In byteR 1 w A bs) (hlc : bs.length ≤ cap) (hcm : cap ≤ maxLen) :
    Calls Try.prog 3 #[.slice A bs.length cap] w fun e w' => e = .returned (.bool true) ∧ Below w.heap.size w w' := by
  unfold maxLen at hcm
  by_cases hn : bs.length ≤ 1048576
  · have hnI : ¬ (1048576 : Int) < (bs.length : Int) := by omega
    have K0 := Lib.hid (c_DrawIsConvex A cap bs w h hlc (by omega))
    clear h hn
    go_enter Try.func3, Try.ntmps3
    go_wp2_with fail
    refine K0.out.mono ?_
    rintro e w1 ⟨A1, cap1, ps, rfl, hpl, ho, hb⟩
    have E := Lib.hid hb
    have O1 := Lib.hid ho
    have H : Hid (Pts w1 A1 ps) := Lib.hid (own_in (R := ptR) (enc := ptC) ptC_len (by decide) O1.out (fun _ => rfl))
    clear ho hb K0
    obtain ⟨S, hS⟩ : ∃ S, implConvex ps = S := ⟨_, rfl⟩
    have HS := Lib.hid hS
    clear hS
    have HQ : Hid (specConvex ps = S) := Lib.hid (by rw [convex_eq]; exact HS.out)
    go_wp2_with fail
    refine (c_implIsConvex A1 cap1 ps _ H.out (by omega)).mono ?_
    rw [HS.out]
    rintro e w2 ⟨rfl, hb⟩
    replace E := Lib.hid (Ext.trans E.out hb)
    replace H := Lib.hid (H.out.ext ptR_stab hb)
    replace O1 := Lib.hid (own_ext O1.out hb)
    clear hb
    go_wp2_with fail
    refine (c_specIsConvex A1 cap1 ps _ H.out (by omega)).mono ?_
    rw [HQ.out]
    rintro e w3 ⟨rfl, hb⟩
    replace E := Lib.hid (Ext.trans E.out hb)
    replace H := Lib.hid (H.out.ext ptR_stab hb)
    replace O1 := Lib.hid (own_ext O1.out hb)
    clear hb
    cases S
    · go_wp2_with fail
      refine (c_specIsConvex A1 cap1 ps _ H.out (by omega)).mono ?_
      rw [HQ.out]
      rintro e w4 ⟨rfl, hb⟩
      replace E := Lib.hid (Ext.trans E.out hb)
      replace H := Lib.hid (H.out.ext ptR_stab hb)
      replace O1 := Lib.hid (own_ext O1.out hb)
      clear hb
      go_wp2
      go_ret
      exact ⟨rfl, E.out⟩
    · obtain ⟨f1, f2, f3⟩ := facts HS.out
      have F3 := Lib.hid f3
      have S1 : Hid (∀ q ∈ [ps], q.length ≤ 1000000000) := Lib.hid (fun q hq => by simp at hq; subst hq; omega)
      have KA := Lib.hid (fun A c W hW => c_iAreaOf A c [ps] W hW (by simp) S1.out)
      have K1 := Lib.hid (fun A c x y W hW => c_iWindingAt A c [ps] x y W hW (by simp) S1.out)
      generalize areaR [ps] = a at *
      go_wp2_with fail
      first | refine gen_calls ?_ | refine gen_code ?_ | refine gen_list ?_
      intro w4 hW
      obtain ⟨hb, hRR⟩ := new1 hW
      clear hW
      replace E := Lib.hid (Ext.trans E.out hb)
      replace O1 := Lib.hid (own_ext O1.out hb)
      clear hb
      have RR := Lib.hid hRR
      have lRR := RR.out.lt
      clear hRR
      have G : Hid (Rgs w4 (some ⟨w3.heap.size, 0, none⟩) [ps]) := Lib.hid (rgs_one RR.out (has_rg O1.out))
      go_wp2_with fail
      refine (KA.out _ _ _ G.out).mono ?_
      rintro e w5 ⟨rfl, hb⟩
      replace E := Lib.hid (Ext.trans E.out hb)
      replace G := Lib.hid (G.out.ext rgR_stab hb)
      clear hb
      go_wp2_with fail
      go_loopw [7, 8] (fun i _ wr => ∃ k : Nat, k ≤ 400 ∧ i = .int .i64 k ∧ Rgs wr (some ⟨w3.heap.size, 0, none⟩) [ps] ∧ Below w.heap.size w wr) (fun i _ _ => 400 - (intOf i).toNat)
      case atStart => exact ⟨0, Nat.zero_le _, rfl, G.out, E.out⟩
      case round =>
        obtain ⟨k, hk, rfl, hg, hbw⟩ := hrel
        clear G E
        have G := Lib.hid hg
        have E := Lib.hid hbw
        clear hg hbw
        by_cases hlt : k < 400
        · have hltI : decide ((k : Int) < 400) = true := by simp; omega
          have hltP : (k : Int) < 400 := by omega
          obtain ⟨x, hx⟩ : ∃ x : Int, (k : Int) % 20 * 11 - 5 = x := ⟨_, rfl⟩
          obtain ⟨y, hy⟩ : ∃ y : Int, (k : Int) / 20 * 11 - 5 = y := ⟨_, rfl⟩
          have q1 : Int.tmod (k : Int) 20 = (k : Int) % 20 := Int.tmod_eq_emod_of_nonneg (by omega)
          have q2 : Int.tdiv (k : Int) 20 = (k : Int) / 20 := Int.tdiv_eq_ediv_of_nonneg (by omega)
          obtain ⟨⟨b1, b2⟩, b3⟩ := F3.out x y
          have KW := Lib.hid (fun A c W hW => K1.out A c x y W hW)
          obtain ⟨v, hv⟩ : ∃ v, windR [ps] x y = v := ⟨_, rfl⟩
          rw [hv] at b1 b2 b3 KW
          obtain ⟨p, hp⟩ : ∃ p, v * a = p := ⟨_, rfl⟩
          have hpb : -1000000000 ≤ p ∧ p ≤ 1000000000 := by
            have hv3 : v = -1 ∨ v = 0 ∨ v = 1 := by omega
            rw [← hp]
            rcases hv3 with rfl | rfl | rfl <;> simp <;> omega
          rw [hp] at b3
          have g0 : IntKind.i64.wrap (v * a) = p := by rw [hp]; exact IntWalk.i64_in _ (by omega)
          obtain ⟨m, hm⟩ : ∃ m : Int, (k : Int) % 20 = m := ⟨_, rfl⟩
          obtain ⟨d, hd⟩ : ∃ d : Int, (k : Int) / 20 = d := ⟨_, rfl⟩
          rw [hm] at hx q1
          rw [hd] at hy q2
          have hmb : 0 ≤ m ∧ m < 20 := by omega
          have hdb : 0 ≤ d ∧ d < 20 := by omega
          have g1 : IntKind.i64.wrap (m * 11) = m * 11 := IntWalk.i64_in _ (by omega)
          have g2 : IntKind.i64.wrap (m * 11 - 5) = x := by rw [hx]; exact IntWalk.i64_in _ (by omega)
          have g3 : IntKind.i64.wrap (d * 11) = d * 11 := IntWalk.i64_in _ (by omega)
          have g4 : IntKind.i64.wrap (d * 11 - 5) = y := by rw [hy]; exact IntWalk.i64_in _ (by omega)
          have n1 : decide (v < -1) = false := by simp; omega
          have n2 : decide (1 < v) = false := by simp; omega
          have n3 : decide (0 < p) = false := by simp; omega
          have n4 : ¬ v < -1 := by omega
          have n5 : ¬ 1 < v := by omega
          have n6 : ¬ 0 < p := by omega
          clear hx hy hv hp hm hd
          go_wp2_with fail
          refine (KW.out _ _ _ G.out).mono ?_
          rintro e w6 ⟨rfl, hb⟩
          replace E := Lib.hid (Ext.trans E.out hb)
          replace G := Lib.hid (G.out.ext rgR_stab hb)
          clear hb
          go_wp2
          go_roundw
          case rel => exact ⟨k + 1, by omega, by go_num, G.out, E.out⟩
          case measure => simp [intOf]; omega
        · obtain rfl : k = 400 := by omega
          have hltI : decide (((400 : Nat) : Int) < 400) = false := by decide
          have hne : (a != 0) = true := by simp [f1]
          go_wp2
          go_ret
          exact ⟨rfl, E.out⟩
  · have hnI : (1048576 : Int) < (bs.length : Int) := by omega
    clear h
    go_enter Try.func3, Try.ntmps3
    go_wp2
    go_ret
    exact ⟨rfl, Below.refl _ _⟩

theorem opens0 : Opens Try.prog 22 (slR byteR 1 ) :=  opens_slice Try.underlying22 (by kernel_rfl) (by decide) (opens_byte Try.underlying5)
set_option maxRecDepth 100000 in
theorem lifted (os : Os) (started : os.Started) (H : Type) (enc : TypeId × Value → H) :
    ReturnsInHanded {} Try.checked os 3 .any (Rows.fnIsConvexWindingSpec.pre6 enc Try.prog Try.f3 Rows.fnIsConvexWindingRow.domain false) (Rows.fnIsConvexWindingSpec.post enc Try.prog Try.f3 false true false false) := by
  refine returnsInHanded_of_change (C := Try.checked) own started (by kernel_rfl) Try.func3
    (ChangeSpec.witness6 (enc := enc) (C := Try.checked) false ⟨#[], #[.slice none 0 0], []⟩ 8 (by kernel_rfl) (by kernel_rfl) (by kernel_rfl) (by kernel_rfl)) ?_
  intro W base args ds gs before hval0 hW hcnd _
  have hval : ∀ (j : Nat) t v, Try.f3.params[j]? = some t → args[j]? = some v → Value.okWide Try.prog W .any base t v := hval0
  have hW' := hW
  obtain ⟨p, q, hA0, hV, rfl, hfz, hnd⟩ := hW
  have hA : DataW.TrodAll enc Try.prog W 0 (fun _ => true) true Try.f3.params.toList args.toList ds p := hA0
  rw [Try.params3] at hA hval
  obtain ⟨v0, vs0, d0, ds0, p0, q0, hargs, rfl, rfl, h0, r0⟩ := trodAll_cons hA
  obtain ⟨rfl, rfl, rfl⟩ := trodAll_nil r0
  obtain rfl : args = #[v0] := by cases args; simp_all
  obtain ⟨rfl, rfl, rfl⟩ := trodVars_none hV
  obtain ⟨a0, len0, cap0, rfl⟩ := okWide_slice Try.underlying22 (hval 0 22 v0 rfl rfl)
  have k0 := h0
  have lt0 : ∀ x ∈ p0, x.block < W.heap.size := by obtain ⟨m, hm⟩ := k0; exact DataW.trod_lt m _ _ _ hm
  obtain ⟨xs0, rfl, w0, wl0, wc0⟩ := open_arg rfl opens0 h0
  clear hA0 hval0
  refine (walk a0 cap0 xs0 W w0 wl0 wc0).mono fun e W' ⟨he, bel⟩ => ?_
  subst he
  exact ⟨_, rfl, _, _, _, [], _, [], hW', trodAll_mk1 (shut_bool Try.underlying4 _), (trodAll_cons_mk (Below.trod laidOut (by kernel_rfl) (of_decide_eq_true (by kernel_rfl)) k0 bel lt0) trodAll_mk0), rfl, bel.frame _, fun h => by cases h⟩
theorem over : Rows.fnIsConvexWindingRow.holds Try.pinned (OpenSpec.ofChange Rows.fnIsConvexWindingSpec) :=
  OpenClaim.holds_of_wide 3 Try.f3 rfl rfl rfl rfl rfl rfl rfl ⟨rfl, rfl, rfl, rfl, rfl⟩ rfl rfl rfl rfl rfl (by kernel_rfl) Try.func3 (by kernel_rfl)
    (of_decide_eq_true (by kernel_rfl)) (by unfold Func.isWrapper; first | (rw [if_pos (by decide +kernel)]; kernel_rfl) | (rw [if_neg (by decide +kernel)]; exact ⟨rfl, rfl⟩))
    (fun os started H enc _ => lifted os started H enc)

theorem proved : Rows.FnIsConvexWindingSaid := over

end Go.Proofs.Ytalicpgnjpgloaa.fnIsConvexWinding

