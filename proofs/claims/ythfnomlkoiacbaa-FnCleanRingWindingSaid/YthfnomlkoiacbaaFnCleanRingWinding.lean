/- Windings do not need needless points either, whatever the bytes that the polygons are drawn from. -/
import Derived.Test.YthfnomlkoiacbaaClean2
import Derived.Test.YthfnomlkoiacbaaDrawClean
import Derived.Test.YthfnomlkoiacbaaEqual
import Derived.Test.YthfnomlkoiacbaaNdR
import Derived.Test.YthfnomlkoiacbaaWindA
import Derived.Test.YthfnomlkoiacbaaRegionT
import Derived.Test.YthfnomlkoiacbaaOrg
import Derived.Test.YthfnomlkoiacbaaOpen
namespace Go.Proofs.Ythfnomlkoiacbaa.fnCleanRingWinding
open Go Go.RowKit Go.ChangeShapes Go.WideShapes Go.ChangeAt Go.Deep Reg
attribute [local go_sem] calmAt calmUpon

theorem own : ownKnob Try.prog.godebug = none := by kernel_rfl
theorem laidOut : laidOutB Try.prog = true := by kernel_rfl
/-- A row of one polygon. -/
theorem rgs_one {w : World} {b : Nat} {e : TypeId} {v : Value} {r : Rg} (h : Row w b e [v]) (hr : rgR w r [v]) : Rgs w (some ⟨b, 0, none⟩) [r] := by
  intro _
  refine ⟨b, 0, rfl, fun k hk => ?_⟩
  obtain rfl : k = 0 := by simp at hk; omega
  refine ⟨[v], hr, rfl, fun j u hu => ?_⟩
  obtain rfl : j = 0 := by
    have := (List.getElem?_eq_some_iff.1 hu).1
    simp at this; omega
  simp at hu; subst hu
  exact h.cell_of (i := 0) rfl
set_option maxRecDepth 100000 in
set_option maxHeartbeats 4000000 in
theorem walk (A : Option Addr) (cap : Nat) (bs : List Int) (w : World) (h : In byteR 1 w A bs) (hlc : bs.length ≤ cap) (hcm : cap ≤ maxLen) :
    Calls Try.prog 3 #[.slice A bs.length cap] w fun e w' => e = .returned (.bool true) ∧ Below w.heap.size w w' := by
  unfold maxLen at hcm
  by_cases hn : bs.length ≤ 1048576
  · have hnI : ¬ (1048576 : Int) < (bs.length : Int) := by omega
    have E := Lib.hid (Below.refl w.heap.size w)
    go_enter Try.func3, Try.ntmps3
    go_wp2_with fail
    refine (c_DrawCleanRing A cap bs w h hlc (by omega)).mono ?_
    rintro e w1 ⟨A1, cap1, ps, rfl, hps, ho1, hb⟩
    replace E := Lib.hid (Ext.trans E.out hb)
    clear hb
    have O1 := Lib.hid (ho1)
    clear ho1
    have hle := cleanR_le' ps
    have Hwd := Lib.hid (fun (h : 0 < (cleanR ps).length) x y => windR_clean h x y)
    generalize hR : cleanR ps = rs at *
    have HR := Lib.hid hR
    clear hR h hn
    have P1 : Hid (Pts w1 A1 ps) := Lib.hid (own_in (R := ptR) (enc := ptC) ptC_len (by decide) O1.out (fun _ => rfl))
    go_wp2_with fail
    refine (c_iCleanRing _ _ ps w1 P1.out O1.out.slok (by omega)).mono ?_
    rw [HR.out]
    rintro e w2 ⟨A2, cap2, rfl, ho2, hb⟩
    replace E := Lib.hid (Ext.trans E.out hb)
    replace O1 := Lib.hid (own_ext O1.out hb)
    replace P1 := Lib.hid (P1.out.ext ptR_stab hb)
    clear hb
    have O2 := Lib.hid (ho2)
    clear ho2
    go_wp2_with fail
    refine (c_sCleanRing _ _ ps w2 P1.out (by omega)).mono ?_
    rw [HR.out]
    rintro e w3 ⟨A3, cap3, rfl, hp3, hb⟩
    replace E := Lib.hid (Ext.trans E.out hb)
    replace O1 := Lib.hid (own_ext O1.out hb)
    replace P1 := Lib.hid (P1.out.ext ptR_stab hb)
    replace O2 := Lib.hid (own_ext O2.out hb)
    clear hb
    have P3 := Lib.hid (hp3)
    clear hp3
    have P2 : Hid (Pts w3 A2 rs) := Lib.hid (own_in (R := ptR) (enc := ptC) ptC_len (by decide) O2.out (fun _ => rfl))
    go_wp2_with fail
    refine (c_equalPoints A2 A3 cap2 cap3 rs rs w3 P2.out P3.out (by omega) (by omega)).mono ?_
    rw [(decide_eq_true (rfl : rs = rs))]
    rintro e w4 ⟨rfl, hb⟩
    replace E := Lib.hid (Ext.trans E.out hb)
    replace O1 := Lib.hid (own_ext O1.out hb)
    replace P1 := Lib.hid (P1.out.ext ptR_stab hb)
    replace O2 := Lib.hid (own_ext O2.out hb)
    replace P3 := Lib.hid (P3.out.ext ptR_stab hb)
    replace P2 := Lib.hid (P2.out.ext ptR_stab hb)
    clear hb
    by_cases h0 : rs.length = 0
    · have hb0 : (((rs.length : Nat) : Int) == 0) = true := by simp; exact List.eq_nil_of_length_eq_zero h0
      clear h0
      go_wp2_with fail
      refine (c_sCleanRing _ _ ps w4 P1.out (by omega)).mono ?_
      rw [HR.out]
      rintro e w5 ⟨A5, cap5, rfl, hp5, hb⟩
      replace E := Lib.hid (Ext.trans E.out hb)
      replace O1 := Lib.hid (own_ext O1.out hb)
      replace P1 := Lib.hid (P1.out.ext ptR_stab hb)
      replace O2 := Lib.hid (own_ext O2.out hb)
      replace P3 := Lib.hid (P3.out.ext ptR_stab hb)
      replace P2 := Lib.hid (P2.out.ext ptR_stab hb)
      clear hb
      have P5 := Lib.hid (hp5)
      clear hp5
      go_wp2_with fail
      refine (c_equalPoints A2 A5 cap2 cap5 rs rs w5 P2.out P5.out (by omega) (by omega)).mono ?_
      rw [(decide_eq_true (rfl : rs = rs))]
      rintro e w6 ⟨rfl, hb⟩
      replace E := Lib.hid (Ext.trans E.out hb)
      replace O1 := Lib.hid (own_ext O1.out hb)
      replace P1 := Lib.hid (P1.out.ext ptR_stab hb)
      replace O2 := Lib.hid (own_ext O2.out hb)
      replace P3 := Lib.hid (P3.out.ext ptR_stab hb)
      replace P2 := Lib.hid (P2.out.ext ptR_stab hb)
      replace P5 := Lib.hid (P5.out.ext ptR_stab hb)
      clear hb
      go_wp2
      go_ret
      exact ⟨rfl, E.out⟩
    · have hb0 : (((rs.length : Nat) : Int) == 0) = false := by simp; intro hh; subst hh; simp at h0
      have hpos : 0 < rs.length := by omega
      have S1 : Hid (∀ q ∈ [ps], q.length ≤ 1000000000) := Lib.hid (fun q hq => by simp at hq; subst hq; omega)
      have S2 : Hid (∀ q ∈ [rs], q.length ≤ 1000000000) := Lib.hid (fun q hq => by simp at hq; subst hq; omega)
      have K1 := Lib.hid (fun A c x y W hW => c_iWindingAt A c [ps] x y W hW (by simp) S1.out)
      have K2 : Hid (∀ A c x y W, Rgs W A [rs] → Calls Try.prog 9 #[.slice A 1 c, .int .i64 x, .int .i64 y] W fun e w' => e = .returned (.int .i64 (windR [ps] x y)) ∧ Below W.heap.size W w') := Lib.hid (fun A c x y W hW => by
        rw [← Hwd.out hpos x y]
        exact c_iWindingAt A c [rs] x y W hW (by simp) S2.out)
      clear h0 hpos S1 S2 Hwd HR
      have R1 := Lib.hid (has_rg O1.out)
      have R2 := Lib.hid (has_rg O2.out)
      clear P2 P3 O1 O2
      obtain ⟨wo, hwo⟩ : ∃ wo : World, wo = w4 := ⟨_, rfl⟩
      subst hwo
      go_wp2_with fail
      go_loopw [5] (fun i wr => ∃ k : Nat, k ≤ ps.length ∧ i = .int .i64 k ∧ Ext wo wr) (fun i _ => ps.length - (intOf i).toNat)
      case atStart => exact ⟨0, Nat.zero_le _, rfl, Below.refl _ _⟩
      case round =>
        obtain ⟨k, hk, rfl, hbw⟩ := hrel
        have X := Lib.hid hbw
        clear hbw
        by_cases hlt : k < ps.length
        · obtain ⟨b, off, hA, hb, hc⟩ := (P1.out.ext ptR_stab X.out).pts (by omega)
          obtain ⟨cx, cy⟩ := hc k hlt
          have hkI : (k : Int) < (ps.length : Int) := by omega
          have hkd : decide ((k : Int) < (ps.length : Int)) = true := by simp; omega
          have hn0 : (0 : Int) ≤ (k : Int) := by omega
          generalize hp : ps[k] = p at *
          obtain ⟨x, y⟩ := p
          dsimp only at cx cy
          clear hc hp
          subst hA
          go_wp2_with fail
          refine wp_region_tame [0,2,3,4,5,6,7,8,9,10,11,13,15,16,17,18,19,20,21,22,23,24] [(1, some 34), (12, some 45), (14, some 47), (25, some 58), (26, some 59)] (by kernel_rfl) (by kernel_rfl)
            (fun i v w => match i with
              | 1 => ∃ g, v = .slice (some ⟨g, 0, none⟩) 1 1 ∧ Rgs w (some ⟨g, 0, none⟩) [ps]
              | 14 => ∃ g, v = .slice (some ⟨g, 0, none⟩) 1 1 ∧ Rgs w (some ⟨g, 0, none⟩) [rs]
              | 12 => v = .int .i64 (windR [ps] x y)
              | 25 => v = .int .i64 (windR [ps] x y)
              | 26 => v = .bool false
              | _ => True) ?_ ?_
          · intro i v w w' h hx
            split at h
            · obtain ⟨g, h1, h2⟩ := h; exact ⟨g, h1, h2.ext rgR_stab hx⟩
            · obtain ⟨g, h1, h2⟩ := h; exact ⟨g, h1, h2.ext rgR_stab hx⟩
            · exact h
            · exact h
            · exact h
            · trivial
          iterate 22 ((refine calm_yes rfl rfl (fun w' hC => (by have cx := hC.cell cx; have cy := hC.cell cy; go_simp; rfl)) (fun K hK => ?_); go_simp; refine hK _ ?_; clear hK K))
          refine calm_nil ?_
          clear cx cy
          refine ⟨List.forall_mem_cons.2 ⟨?_, List.forall_mem_cons.2 ⟨?_, List.forall_mem_cons.2 ⟨?_, List.forall_mem_cons.2 ⟨?_, List.forall_mem_cons.2 ⟨?_, by simp⟩⟩⟩⟩⟩, ?_⟩
          · refine tame_op rfl (fun vals => rfl) (fun vals w' hC hn K hK => ?_)
            simp only [canon, List.foldl_cons, List.foldl_nil]
            go_simp
            exact hK _ (.slice (some ⟨w'.heap.size, 0, none⟩) 1 1) _ rfl (ext_alloc _ _) ⟨_, rfl, rgs_one (Row.new _ _ _) (rgR_stab _ _ _ _ R1.out (Ext.trans (Ext.trans X.out (ext_cls hC)) (ext_alloc _ _)))⟩
          · refine tame_op rfl (fun vals => rfl) (fun vals w' hC hn K hK => ?_)
            obtain ⟨g, h1, h2⟩ := hn (1, some 34) (by simp) (by kernel_rfl)
            simp only [canon, List.foldl_cons, List.foldl_nil]
            rw [h1]
            go_simp
            refine (K1.out _ _ x y _ h2).mono ?_
            rintro e w'' ⟨rfl, hb⟩
            exact hK _ (.int .i64 (windR [ps] x y)) _ (by simp only [canon, List.foldl_cons, List.foldl_nil, h1]; rfl) hb rfl
          · refine tame_op rfl (fun vals => rfl) (fun vals w' hC hn K hK => ?_)
            simp only [canon, List.foldl_cons, List.foldl_nil]
            go_simp
            exact hK _ (.slice (some ⟨w'.heap.size, 0, none⟩) 1 1) _ rfl (ext_alloc _ _) ⟨_, rfl, rgs_one (Row.new _ _ _) (rgR_stab _ _ _ _ R2.out (Ext.trans (Ext.trans X.out (ext_cls hC)) (ext_alloc _ _)))⟩
          · refine tame_op rfl (fun vals => rfl) (fun vals w' hC hn K hK => ?_)
            obtain ⟨g, h1, h2⟩ := hn (14, some 47) (by simp) (by kernel_rfl)
            simp only [canon, List.foldl_cons, List.foldl_nil]
            rw [h1]
            go_simp
            refine (K2.out _ _ x y _ h2).mono ?_
            rintro e w'' ⟨rfl, hb⟩
            exact hK _ (.int .i64 (windR [ps] x y)) _ (by simp only [canon, List.foldl_cons, List.foldl_nil, h1]; rfl) hb rfl
          · refine tame_op rfl (fun vals => rfl) (fun vals w' hC hn K hK => ?_)
            have h1 : vals 12 = .int .i64 (windR [ps] x y) := hn (12, some 45) (by simp) (by kernel_rfl)
            have h2 : vals 25 = .int .i64 (windR [ps] x y) := hn (25, some 58) (by simp) (by kernel_rfl)
            simp only [canon, List.foldl_cons, List.foldl_nil]
            rw [h1, h2]
            go_simp
            exact hK _ (.bool false) _ (by simp only [canon, List.foldl_cons, List.foldl_nil, h1, h2]; rfl) (Ext.refl _) rfl
          · intro vals w' hx hf K hK
            have h1 : vals 26 = .bool false := hf (26, some 59) (by simp)
            simp only [canon, List.foldl_cons, List.foldl_nil]
            rw [h1]
            go_simp
            refine hK _ ?_
            clear hK K hf h1
            replace X := Lib.hid (Ext.trans X.out hx)
            clear hx
            go_wp2
            go_roundw
            case rel => exact ⟨k + 1, by omega, by go_num, X.out⟩
            case measure => simp [intOf]; omega
        · have hkd : decide ((k : Int) < (ps.length : Int)) = false := by simp; omega
          go_wp2
          go_ret
          exact ⟨rfl, Ext.trans E.out X.out⟩
  · have hnI : (1048576 : Int) < (bs.length : Int) := by omega
    clear h
    go_enter Try.func3, Try.ntmps3
    go_wp2
    go_ret
    exact ⟨rfl, Below.refl _ _⟩

theorem opens0 : Opens Try.prog 22 (slR byteR 1 ) :=  opens_slice Try.underlying22 (by kernel_rfl) (by decide) (opens_byte Try.underlying5)
set_option maxRecDepth 100000 in
theorem lifted (os : Os) (started : os.Started) (H : Type) (enc : TypeId × Value → H) :
    ReturnsInHanded {} Try.checked os 3 .any (Rows.fnCleanRingWindingSpec.pre6 enc Try.prog Try.f3 Rows.fnCleanRingWindingRow.domain false) (Rows.fnCleanRingWindingSpec.post enc Try.prog Try.f3 false true false false) := by
  refine returnsInHanded_of_change (C := Try.checked) own started (by kernel_rfl) Try.func3
    (ChangeSpec.witness6 (enc := enc) (C := Try.checked) false ⟨#[], #[.slice none 0 0], []⟩ 8 (by kernel_rfl) (by kernel_rfl) (by kernel_rfl) (by kernel_rfl)) ?_
  intro W base args ds gs before hval0 hW hcnd _
  have hval : ∀ (j : Nat) t v, Try.f3.params[j]? = some t → args[j]? = some v → Value.okWide Try.prog W .any base t v := hval0
  have hW' := hW
  obtain ⟨p, q, hA0, hV, rfl, hfz, hnd⟩ := hW
  have hA : DataW.TrodAll enc Try.prog W 0 (fun _ => true) true Try.f3.params.toList args.toList ds p := hA0
  rw [Try.params3] at hA hval
  obtain ⟨v0, vs0, d0, ds0, p0, q0, hargs, rfl, rfl, h0, r0⟩ := trodAll_cons hA
  obtain ⟨rfl, rfl, rfl⟩ := trodAll_nil r0
  obtain rfl : args = #[v0] := by cases args; simp_all
  obtain ⟨rfl, rfl, rfl⟩ := trodVars_none hV
  obtain ⟨a0, len0, cap0, rfl⟩ := okWide_slice Try.underlying22 (hval 0 22 v0 rfl rfl)
  have k0 := h0
  have lt0 : ∀ x ∈ p0, x.block < W.heap.size := by obtain ⟨m, hm⟩ := k0; exact DataW.trod_lt m _ _ _ hm
  obtain ⟨xs0, rfl, w0, wl0, wc0⟩ := open_arg rfl opens0 h0
  clear hA0 hval0
  refine (walk a0 cap0 xs0 W w0 wl0 wc0).mono fun e W' ⟨he, bel⟩ => ?_
  subst he
  exact ⟨_, rfl, _, _, _, [], _, [], hW', trodAll_mk1 (shut_bool Try.underlying4 _), (trodAll_cons_mk (Below.trod laidOut (by kernel_rfl) (of_decide_eq_true (by kernel_rfl)) k0 bel lt0) trodAll_mk0), rfl, bel.frame _, fun h => by cases h⟩
theorem over : Rows.fnCleanRingWindingRow.holds Try.pinned (OpenSpec.ofChange Rows.fnCleanRingWindingSpec) :=
  OpenClaim.holds_of_wide 3 Try.f3 rfl rfl rfl rfl rfl rfl rfl ⟨rfl, rfl, rfl, rfl, rfl⟩ rfl rfl rfl rfl rfl (by kernel_rfl) Try.func3 (by kernel_rfl)
    (of_decide_eq_true (by kernel_rfl)) (by unfold Func.isWrapper; first | (rw [if_pos (by decide +kernel)]; kernel_rfl) | (rw [if_neg (by decide +kernel)]; exact ⟨rfl, rfl⟩))
    (fun os started H enc _ => lifted os started H enc)

theorem proved : Rows.FnCleanRingWindingSaid := over

end Go.Proofs.Ythfnomlkoiacbaa.fnCleanRingWinding

