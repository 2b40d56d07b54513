/-
  Polygons drawn: the walks.
-/
import Derived.Test.YtmoobdohhnficaaRPath
import Derived.Test.YtmoobdohhnficaaRingsS
namespace Go.Proofs.Ytmoobdohhnficaa
open Go Go.RowKit Reg
attribute [local go_sem] calmAt calmUpon
theorem RT_ne_RD : (27 : TypeId) ≠ 48 := by decide
section
variable {w w' : World} {B g N : Nat} {v : Value} {rs : List Rg} {ss : List Value}
theorem ORg.keptR (h : OR w B v rs ss) (hr : Rdr w g N) (hg : w.grownBy w' (some g)) : OR w' B v rs ss :=
  ⟨h.len, h.out.keptR hr RT_ne_RD hg, fun i hi => (h.inn i hi).keptR hr PT_ne_RD hg, h.nd⟩
theorem ORg.lt (h : OR w B v rs ss) : ∀ k, v.ownBlock = some k → B ≤ k := fun k hk => (h.out.lt k hk).1
end
/-- All points are near. -/
def RgsN (rs : List Rg) (L M : Nat) : Prop := rs.length ≤ L ∧ ∀ r ∈ rs, r.length ≤ M ∧ ∀ p ∈ r, CrdP p
theorem corners_ge {rs : List Rg} {r : Rg} (h : r ∈ rs) : r.length ≤ corners rs := by
  induction rs with
  | nil => simp at h
  | cons a rs ih =>
    rw [corners_cons]
    rcases List.mem_cons.1 h with rfl | h
    · omega
    · have := ih h; omega
theorem rgsN_nil (L M : Nat) : RgsN [] L M := ⟨by simp, by simp⟩
theorem rgsN_snoc {rs : List Rg} {r : Rg} {L M : Nat} (h : RgsN rs L M) (h1 : r.length ≤ M) (h2 : ∀ p ∈ r, CrdP p) : RgsN (rs ++ [r]) (L + 1) M :=
  ⟨by have := h.1; simp; omega, fun q hq => by
    rcases List.mem_append.1 hq with hq | hq
    · exact h.2 q hq
    · simp at hq; subst hq; exact ⟨h1, h2⟩⟩
theorem RgsN.mono {rs : List Rg} {L L' M M' : Nat} (h : RgsN rs L M) (h1 : L ≤ L') (h2 : M ≤ M') : RgsN rs L' M' :=
  ⟨Nat.le_trans h.1 h1, fun r hr => ⟨Nat.le_trans (h.2 r hr).1 h2, (h.2 r hr).2⟩⟩
/-- Polygons drawn, in rows of their own. -/
def DrewRgs (w w' : World) (e : Ending) (g N L : Nat) : Prop := ∃ A cap, ∃ rs : List Rg, ∃ ss, e = .returned (.slice A rs.length cap) ∧ RgsN rs L 300 ∧ OR w' w.heap.size (.slice A rs.length cap) rs ss ∧ Rdr w' g N ∧ w.grownBy w' (some g)
set_option maxRecDepth 100000 in
set_option maxHeartbeats 4000000 in
theorem c_randomRings (g N : Nat) (w : World) (h : Rdr w g N) (hN : N + 300 ≤ 1000000) :
    Calls Try.prog 27 #[.pointer (some ⟨g, 0, none⟩)] w fun e w' => DrewRgs w w' e g (N + 300) 31 := by
  have hlt := h.lt
  have D := Lib.hid h
  have G : Hid (w.grownBy w (some g)) := Lib.hid (only_refl _ _)
  clear h
  go_enter Try.func27, Try.ntmps27
  go_wp2_with fail
  refine (c_pick g N 3 _ D.out (by omega)).mono ?_
  rintro e w1 ⟨v, rfl, _, hr, hg⟩
  replace G := Lib.hid (grown_trans G.out hg)
  replace D := Lib.hid hr
  clear hr hg
  have hcase : (v == 0) = true ∨ (v == 0) = false := by cases (v == 0) <;> simp
  rcases hcase with hb0 | hb0
  · go_wp2_with fail
    refine (c_randomPathP g _ _ D.out (by omega)).mono ?_
    rintro e w2 ⟨A, cap, vs, ss, rfl, hvl, hvn, hpo, hov, hr, hg⟩
    have hz12 := hg.size
    replace G := Lib.hid (grown_trans G.out hg)
    replace D := Lib.hid hr
    clear hr hg
    have Hpo := Lib.hid hpo
    have V := Lib.hid hov
    have hz2 : w.heap.size ≤ w2.heap.size := G.out.size
    clear hpo hov hvl
    go_wp2_with fail
    refine (c_srings A cap vs _ V.out.in_ Hpo.out).mono ?_
    rintro e w3 ⟨A1, cap1, s1, rfl, ho1, hb⟩
    replace D := Lib.hid (D.out.ext hb)
    replace G := Lib.hid (grown_trans G.out (grown_ext hb))
    replace V := Lib.hid (V.out.ext hb)
    clear hb
    have O := Lib.hid ((ho1.rebase hz2))
    clear ho1
    clear V
    obtain ⟨q1, q2, q3⟩ := ringsL_ok Hpo.out
    have hN1 : Hid (RgsN (ringsL vs) 31 300) := Lib.hid ⟨q3, fun r hr => ⟨Nat.le_trans (corners_ge hr) (by omega), fun p hp => crdP_of ((q1 r hr).1 p hp)⟩⟩
    clear q1 q2 q3
    generalize ringsL vs = rs at *
    have hrl := hN1.out.1
    go_wp2_with fail
    refine (c_sValidRings A1 cap1 rs _ O.out.in_ (by omega) (fun r hr => by have := (hN1.out.2 r hr).1; omega)).mono ?_
    rintro e wx ⟨rfl, hb⟩
    replace D := Lib.hid (D.out.ext hb)
    replace G := Lib.hid (grown_trans G.out (grown_ext hb))
    replace O := Lib.hid (O.out.ext hb)
    clear hb
    cases hd : rgsB rs
    · clear O hd hN1 hrl
      have D2 := Lib.hid (D.out.mono (show _ ≤ N + 240 by omega))
      have hzx : w.heap.size ≤ wx.heap.size := G.out.size
      have hgl : g < wx.heap.size := D2.out.lt
      clear D
      go_wp2_with fail
      first | refine gen_calls ?_ | refine gen_code ?_ | refine gen_list ?_
      intro w5 hW
      obtain ⟨hb, hR1, hR2⟩ := new2 hW
      clear hW
      replace D2 := Lib.hid (D2.out.ext hb)
      replace G := Lib.hid (grown_trans G.out (grown_ext hb))
      clear hb
      have R1 := Lib.hid hR1
      have lR1 := R1.out.lt
      clear hR1
      have R2 := Lib.hid hR2
      have lR2 := R2.out.lt
      clear hR2
      have O : Hid (OR w5 w.heap.size (.slice (some ⟨wx.heap.size, 0, none⟩) 0 0) [] []) := Lib.hid ⟨rfl, own_of_row (n := 0) R1.out hzx rfl (by decide), fun i hi => by simp at hi, fun i j hi => by simp at hi⟩
      have I2 := Lib.hid (Row.in_ (rest := []) (enc := intC) (xs := [1, 2, 1, 3, 0]) (sz := 1) (R := intR) (fun _ => rfl) (by simpa [intC] using R2.out) (fun _ _ => rfl))
      clear R1 R2
      go_wp2_with fail
      refine (c_one g _ _ 5 [1, 2, 1, 3, 0] _ D2.out (by omega) I2.out (by simp) (by simp) (fun b off hA => by cases hA; omega)).mono ?_
      rintro e w6 ⟨v6, rfl, hv6, hr, hg⟩
      replace G := Lib.hid (grown_trans G.out hg)
      replace O := Lib.hid (O.out.keptR D2.out hg)
      replace D2 := Lib.hid hr
      clear hr hg
      have hv6 : 0 ≤ v6 ∧ v6 ≤ 3 := by simp at hv6; omega
      obtain ⟨M, rfl⟩ : ∃ L : Nat, v6 = (L : Int) := ⟨v6.toNat, by omega⟩
      clear I2
      go_wp2_with fail
      go_loopw [4, 5, 6, 7] (fun v4 n _ _ wr => ∃ (m : Nat) (A : Option Addr) (cap : Nat) (rs : List Rg) (ss : List Value), n = .int .i64 m ∧ v4 = .slice A rs.length cap ∧ m ≤ 3 ∧ rs.length + m ≤ 3 ∧ RgsN rs 3 7 ∧ OR wr w.heap.size (.slice A rs.length cap) rs ss ∧ Rdr wr g (N + 241 + 16 * (3 - m)) ∧ w.grownBy wr (some g)) (fun _ n _ _ _ => (intOf n).toNat)
      case atStart => exact ⟨M, _, 0, [], [], rfl, rfl, by omega, by simp; omega, rgsN_nil 3 7, O.out, D2.out.mono (by omega), G.out⟩
      case round =>
        obtain ⟨m, A, cap, rs, ss, rfl, rfl, hm, hrm, hall, hor, hrd, hgr⟩ := hrel
        clear O D2 G
        have O := Lib.hid hor
        have D := Lib.hid hrd
        have G := Lib.hid hgr
        have Hall := Lib.hid hall
        have hzr : w.heap.size ≤ wr.heap.size := hgr.size
        have hgl : g < wr.heap.size := hrd.lt
        clear hor hrd hgr hall
        by_cases h0 : 0 < m
        · obtain ⟨wo, hwo⟩ : ∃ wo : World, wo = wr := ⟨_, rfl⟩
          subst hwo
          have L := Lib.hid (fun i hi g hg => (O.out.old i hi g hg).2)
          have X : Hid (wo.grownBy wo (some g)) := Lib.hid (only_refl _ _)
          go_wp2_with fail
          first | refine gen_calls ?_ | refine gen_code ?_ | refine gen_list ?_
          intro w7 hW
          obtain ⟨hb, hR1, hR2⟩ := new2 hW
          clear hW
          replace D := Lib.hid (D.out.ext hb)
          replace X := Lib.hid (grown_trans X.out (grown_ext hb))
          replace O := Lib.hid (O.out.ext hb)
          clear hb
          have R1 := Lib.hid hR1
          have lR1 := R1.out.lt
          clear hR1
          have R2 := Lib.hid hR2
          have lR2 := R2.out.lt
          clear hR2
          have P := Lib.hid (own_of_row (n := 0) (B := wo.heap.size) (sz := 2) R1.out (Nat.le_refl _) rfl (by decide))
          have I2 := Lib.hid (Row.in_ (rest := []) (enc := intC) (xs := [3, 4, 5, 2, 1, 7]) (sz := 1) (R := intR) (fun _ => rfl) (by simpa [intC] using R2.out) (fun _ _ => rfl))
          clear R1 R2
          go_wp2_with fail
          refine (c_one g _ _ 6 [3, 4, 5, 2, 1, 7] _ D.out (by omega) I2.out (by simp) (by simp) (fun b off hA => by cases hA; omega)).mono ?_
          rintro e w8 ⟨v8, rfl, hv8, hr, hg⟩
          replace X := Lib.hid (grown_trans X.out hg)
          replace O := Lib.hid (O.out.keptR D.out hg)
          replace P := Lib.hid (P.out.keptR D.out PT_ne_RD hg)
          replace D := Lib.hid hr
          clear hr hg
          have hv8 : 1 ≤ v8 ∧ v8 ≤ 7 := by simp at hv8; omega
          obtain ⟨J, rfl⟩ : ∃ L : Nat, v8 = (L : Int) := ⟨v8.toNat, by omega⟩
          clear I2
          go_wp2_with fail
          go_loopw [6, 7] (fun v6 k wr => ∃ (j : Nat) (A2 : Option Addr) (cap2 : Nat) (ps : List Pt), k = .int .i64 j ∧ v6 = .slice A2 ps.length cap2 ∧ j ≤ 7 ∧ ps.length + j ≤ 7 ∧ (∀ p ∈ ps, CrdP p) ∧ Has wr wo.heap.size 44 2 (.slice A2 ps.length cap2) ps.length (ps.flatMap ptC) ∧ OR wr w.heap.size (.slice A rs.length cap) rs ss ∧ Rdr wr g (N + 242 + 16 * (3 - m) + 2 * (7 - j)) ∧ wo.grownBy wr (some g)) (fun _ k _ => (intOf k).toNat)
          case atStart => exact ⟨J, _, 0, [], rfl, rfl, by omega, by simp; omega, by simp, P.out, O.out, D.out.mono (by omega), X.out⟩
          case round =>
            obtain ⟨j, A2, cap2, ps, rfl, rfl, hj, hpj, hpa, hpo, hor, hrd, hgr⟩ := hrel
            clear O D X P
            have O := Lib.hid hor
            have D := Lib.hid hrd
            have X := Lib.hid hgr
            have P := Lib.hid hpo
            have Hpa := Lib.hid hpa
            have hzr2 : wo.heap.size ≤ wr.heap.size := hgr.size
            clear hor hrd hgr hpo hpa
            by_cases hj0 : 0 < j
            · go_wp2_with fail
              refine (c_somePoint g _ _ D.out (by omega)).mono ?_
              rintro e w9 ⟨q, rfl, hq, hr, hg⟩
              replace X := Lib.hid (grown_trans X.out hg)
              replace O := Lib.hid (O.out.keptR D.out hg)
              replace P := Lib.hid (P.out.keptR D.out PT_ne_RD hg)
              replace D := Lib.hid hr
              clear hr hg
              have hzr3 : wo.heap.size ≤ w9.heap.size := X.out.size
              go_wp2_with (at_builtin; refine wpList_app (base := wo.heap.size) ei_pt rfl (.tmp 33) (.tmp 36) rfl rfl (own_ext P.out (ext_alloc _ _)) rfl (src_new _ _ [_, _] (m := 1) rfl (by intro u hu; simp only [List.mem_cons, List.not_mem_nil, or_false] at hu; rcases hu with rfl | rfl <;> rfl)) (by omega) (by simp; omega) ?_; intro ve w10 hown hg hat; refine stop_in ?_)
              refine stop_out ?_
              obtain ⟨A3, cap3, hve⟩ := own_form hown
              replace D := Lib.hid ((D.out.ext (ext_alloc _ _)).grown hg (fun k hk => by have := (P.out.lt k hk).1; omega))
              replace X := Lib.hid (grown_own (only_ext X.out (ext_alloc _ _)) hg (fun k hk => (P.out.lt k hk).1))
              replace O := Lib.hid ((O.out.ext (ext_alloc _ _)).grownN TP_ne_TR L.out hg (fun k hk => (P.out.lt k hk).1) (own_ne O.out.out P.out (Ne.symm TP_ne_TR)))
              have heq : ps ++ [q] = (ps ++ [q]) := rfl
              replace P : Hid (Has w10 wo.heap.size 44 2 (.slice A3 ((ps ++ [q])).length cap3) ((ps ++ [q])).length (((ps ++ [q])).flatMap ptC)) := Lib.hid (by
                have q := hown
                rw [hve] at q
                rw [← heq, List.flatMap_append, List.length_append]
                exact q)
              have hvf : ve = .slice A3 ((ps ++ [q])).length cap3 := by rw [hve, ← heq, List.length_append]; rfl
              clear hve
              clear hown hg hat heq
              subst hvf
              go_wp2
              go_roundw
              case rel => exact ⟨j - 1, A3, cap3, ps ++ [q], by go_num, rfl, by omega, by simp; omega, fun p hp => by
                rcases List.mem_append.1 hp with hp | hp
                · exact Hpa.out p hp
                · simp at hp; subst hp; exact hq, P.out, O.out, D.out.mono (by omega), X.out⟩
              case measure => simp [intOf]; omega
            · obtain rfl : j = 0 := by omega
              have hb1 := P.out.1
              have G2 := Lib.hid (grown_trans G.out X.out)
              clear hb1
              go_wp2_with (at_builtin; refine wpList_app (base := w.heap.size) ei_rg rfl (.tmp 38) (.tmp 40) rfl rfl (own_ext O.out.out (ext_alloc _ _)) rfl (src_new wr _ [_] (m := 1) rfl (by intro u hu; simp at hu; subst hu; rfl)) (by omega) (by simp; omega) ?_; intro ve we hown hg hat; refine stop_in ?_)
              refine stop_out ?_
              obtain ⟨A3, cap3, hve⟩ := own_form hown
              have O3 : Hid (OR we w.heap.size ve (rs ++ [ps]) (ss ++ [.slice A2 ps.length cap2])) := Lib.hid ((O.out.ext (ext_alloc _ _)).push TP_ne_TR ((own_ext P.out (ext_alloc _ _)).rebase hzr) L.out (fun g hg => (P.out.lt g hg).1) hown hg)
              have D3 := Lib.hid ((D.out.ext (ext_alloc _ _)).grown hg (fun k hk => by have := O.out.lt k hk; omega))
              have G3 := Lib.hid (grown_own (grown_alloc G2.out _) hg (fun k hk => O.out.lt k hk))
              have hve' : ve = .slice A3 (rs ++ [ps]).length cap3 := by rw [hve, List.length_append]; rfl
              have hrl : (rs ++ [ps]).length + (m - 1) ≤ 3 := by rw [List.length_append]; simp; omega
              have Hal3 : Hid (RgsN (rs ++ [ps]) 3 7) := Lib.hid ⟨by omega, (rgsN_snoc Hall.out (by omega) Hpa.out).2⟩
              clear hown hg hat hve
              subst hve'
              go_wp2
              go_roundw
              case rel => exact ⟨m - 1, A3, cap3, _, _, by go_num, rfl, by omega, hrl, Hal3.out, O3.out, D3.out.mono (by omega), G3.out⟩
              case measure => simp [intOf]; omega
        · go_wp2
          go_ret
          exact ⟨A, cap, rs, ss, rfl, Hall.out.mono (by omega) (by omega), O.out, D.out.mono (by omega), G.out⟩
    · clear hd
      go_wp2
      go_ret
      exact ⟨A1, cap1, rs, s1, rfl, hN1.out, O.out, D.out.mono (by omega), G.out⟩
  · obtain ⟨wx, hwx⟩ : ∃ wx : World, wx = w1 := ⟨_, rfl⟩
    subst hwx
    have D2 := Lib.hid (D.out.mono (show _ ≤ N + 240 by omega))
    have hzx : w.heap.size ≤ wx.heap.size := G.out.size
    have hgl : g < wx.heap.size := D2.out.lt
    clear D
    go_wp2_with fail
    first | refine gen_calls ?_ | refine gen_code ?_ | refine gen_list ?_
    intro w5 hW
    obtain ⟨hb, hR1, hR2⟩ := new2 hW
    clear hW
    replace D2 := Lib.hid (D2.out.ext hb)
    replace G := Lib.hid (grown_trans G.out (grown_ext hb))
    clear hb
    have R1 := Lib.hid hR1
    have lR1 := R1.out.lt
    clear hR1
    have R2 := Lib.hid hR2
    have lR2 := R2.out.lt
    clear hR2
    have O : Hid (OR w5 w.heap.size (.slice (some ⟨wx.heap.size, 0, none⟩) 0 0) [] []) := Lib.hid ⟨rfl, own_of_row (n := 0) R1.out hzx rfl (by decide), fun i hi => by simp at hi, fun i j hi => by simp at hi⟩
    have I2 := Lib.hid (Row.in_ (rest := []) (enc := intC) (xs := [1, 2, 1, 3, 0]) (sz := 1) (R := intR) (fun _ => rfl) (by simpa [intC] using R2.out) (fun _ _ => rfl))
    clear R1 R2
    go_wp2_with fail
    refine (c_one g _ _ 5 [1, 2, 1, 3, 0] _ D2.out (by omega) I2.out (by simp) (by simp) (fun b off hA => by cases hA; omega)).mono ?_
    rintro e w6 ⟨v6, rfl, hv6, hr, hg⟩
    replace G := Lib.hid (grown_trans G.out hg)
    replace O := Lib.hid (O.out.keptR D2.out hg)
    replace D2 := Lib.hid hr
    clear hr hg
    have hv6 : 0 ≤ v6 ∧ v6 ≤ 3 := by simp at hv6; omega
    obtain ⟨M, rfl⟩ : ∃ L : Nat, v6 = (L : Int) := ⟨v6.toNat, by omega⟩
    clear I2
    go_wp2_with fail
    go_loopw [4, 5, 6, 7] (fun v4 n _ _ wr => ∃ (m : Nat) (A : Option Addr) (cap : Nat) (rs : List Rg) (ss : List Value), n = .int .i64 m ∧ v4 = .slice A rs.length cap ∧ m ≤ 3 ∧ rs.length + m ≤ 3 ∧ RgsN rs 3 7 ∧ OR wr w.heap.size (.slice A rs.length cap) rs ss ∧ Rdr wr g (N + 241 + 16 * (3 - m)) ∧ w.grownBy wr (some g)) (fun _ n _ _ _ => (intOf n).toNat)
    case atStart => exact ⟨M, _, 0, [], [], rfl, rfl, by omega, by simp; omega, rgsN_nil 3 7, O.out, D2.out.mono (by omega), G.out⟩
    case round =>
      obtain ⟨m, A, cap, rs, ss, rfl, rfl, hm, hrm, hall, hor, hrd, hgr⟩ := hrel
      clear O D2 G
      have O := Lib.hid hor
      have D := Lib.hid hrd
      have G := Lib.hid hgr
      have Hall := Lib.hid hall
      have hzr : w.heap.size ≤ wr.heap.size := hgr.size
      have hgl : g < wr.heap.size := hrd.lt
      clear hor hrd hgr hall
      by_cases h0 : 0 < m
      · obtain ⟨wo, hwo⟩ : ∃ wo : World, wo = wr := ⟨_, rfl⟩
        subst hwo
        have L := Lib.hid (fun i hi g hg => (O.out.old i hi g hg).2)
        have X : Hid (wo.grownBy wo (some g)) := Lib.hid (only_refl _ _)
        go_wp2_with fail
        first | refine gen_calls ?_ | refine gen_code ?_ | refine gen_list ?_
        intro w7 hW
        obtain ⟨hb, hR1, hR2⟩ := new2 hW
        clear hW
        replace D := Lib.hid (D.out.ext hb)
        replace X := Lib.hid (grown_trans X.out (grown_ext hb))
        replace O := Lib.hid (O.out.ext hb)
        clear hb
        have R1 := Lib.hid hR1
        have lR1 := R1.out.lt
        clear hR1
        have R2 := Lib.hid hR2
        have lR2 := R2.out.lt
        clear hR2
        have P := Lib.hid (own_of_row (n := 0) (B := wo.heap.size) (sz := 2) R1.out (Nat.le_refl _) rfl (by decide))
        have I2 := Lib.hid (Row.in_ (rest := []) (enc := intC) (xs := [3, 4, 5, 2, 1, 7]) (sz := 1) (R := intR) (fun _ => rfl) (by simpa [intC] using R2.out) (fun _ _ => rfl))
        clear R1 R2
        go_wp2_with fail
        refine (c_one g _ _ 6 [3, 4, 5, 2, 1, 7] _ D.out (by omega) I2.out (by simp) (by simp) (fun b off hA => by cases hA; omega)).mono ?_
        rintro e w8 ⟨v8, rfl, hv8, hr, hg⟩
        replace X := Lib.hid (grown_trans X.out hg)
        replace O := Lib.hid (O.out.keptR D.out hg)
        replace P := Lib.hid (P.out.keptR D.out PT_ne_RD hg)
        replace D := Lib.hid hr
        clear hr hg
        have hv8 : 1 ≤ v8 ∧ v8 ≤ 7 := by simp at hv8; omega
        obtain ⟨J, rfl⟩ : ∃ L : Nat, v8 = (L : Int) := ⟨v8.toNat, by omega⟩
        clear I2
        go_wp2_with fail
        go_loopw [6, 7] (fun v6 k wr => ∃ (j : Nat) (A2 : Option Addr) (cap2 : Nat) (ps : List Pt), k = .int .i64 j ∧ v6 = .slice A2 ps.length cap2 ∧ j ≤ 7 ∧ ps.length + j ≤ 7 ∧ (∀ p ∈ ps, CrdP p) ∧ Has wr wo.heap.size 44 2 (.slice A2 ps.length cap2) ps.length (ps.flatMap ptC) ∧ OR wr w.heap.size (.slice A rs.length cap) rs ss ∧ Rdr wr g (N + 242 + 16 * (3 - m) + 2 * (7 - j)) ∧ wo.grownBy wr (some g)) (fun _ k _ => (intOf k).toNat)
        case atStart => exact ⟨J, _, 0, [], rfl, rfl, by omega, by simp; omega, by simp, P.out, O.out, D.out.mono (by omega), X.out⟩
        case round =>
          obtain ⟨j, A2, cap2, ps, rfl, rfl, hj, hpj, hpa, hpo, hor, hrd, hgr⟩ := hrel
          clear O D X P
          have O := Lib.hid hor
          have D := Lib.hid hrd
          have X := Lib.hid hgr
          have P := Lib.hid hpo
          have Hpa := Lib.hid hpa
          have hzr2 : wo.heap.size ≤ wr.heap.size := hgr.size
          clear hor hrd hgr hpo hpa
          by_cases hj0 : 0 < j
          · go_wp2_with fail
            refine (c_somePoint g _ _ D.out (by omega)).mono ?_
            rintro e w9 ⟨q, rfl, hq, hr, hg⟩
            replace X := Lib.hid (grown_trans X.out hg)
            replace O := Lib.hid (O.out.keptR D.out hg)
            replace P := Lib.hid (P.out.keptR D.out PT_ne_RD hg)
            replace D := Lib.hid hr
            clear hr hg
            have hzr3 : wo.heap.size ≤ w9.heap.size := X.out.size
            go_wp2_with (at_builtin; refine wpList_app (base := wo.heap.size) ei_pt rfl (.tmp 33) (.tmp 36) rfl rfl (own_ext P.out (ext_alloc _ _)) rfl (src_new _ _ [_, _] (m := 1) rfl (by intro u hu; simp only [List.mem_cons, List.not_mem_nil, or_false] at hu; rcases hu with rfl | rfl <;> rfl)) (by omega) (by simp; omega) ?_; intro ve w10 hown hg hat; refine stop_in ?_)
            refine stop_out ?_
            obtain ⟨A3, cap3, hve⟩ := own_form hown
            replace D := Lib.hid ((D.out.ext (ext_alloc _ _)).grown hg (fun k hk => by have := (P.out.lt k hk).1; omega))
            replace X := Lib.hid (grown_own (only_ext X.out (ext_alloc _ _)) hg (fun k hk => (P.out.lt k hk).1))
            replace O := Lib.hid ((O.out.ext (ext_alloc _ _)).grownN TP_ne_TR L.out hg (fun k hk => (P.out.lt k hk).1) (own_ne O.out.out P.out (Ne.symm TP_ne_TR)))
            have heq : ps ++ [q] = (ps ++ [q]) := rfl
            replace P : Hid (Has w10 wo.heap.size 44 2 (.slice A3 ((ps ++ [q])).length cap3) ((ps ++ [q])).length (((ps ++ [q])).flatMap ptC)) := Lib.hid (by
              have q := hown
              rw [hve] at q
              rw [← heq, List.flatMap_append, List.length_append]
              exact q)
            have hvf : ve = .slice A3 ((ps ++ [q])).length cap3 := by rw [hve, ← heq, List.length_append]; rfl
            clear hve
            clear hown hg hat heq
            subst hvf
            go_wp2
            go_roundw
            case rel => exact ⟨j - 1, A3, cap3, ps ++ [q], by go_num, rfl, by omega, by simp; omega, fun p hp => by
              rcases List.mem_append.1 hp with hp | hp
              · exact Hpa.out p hp
              · simp at hp; subst hp; exact hq, P.out, O.out, D.out.mono (by omega), X.out⟩
            case measure => simp [intOf]; omega
          · obtain rfl : j = 0 := by omega
            have hb1 := P.out.1
            have G2 := Lib.hid (grown_trans G.out X.out)
            clear hb1
            go_wp2_with (at_builtin; refine wpList_app (base := w.heap.size) ei_rg rfl (.tmp 38) (.tmp 40) rfl rfl (own_ext O.out.out (ext_alloc _ _)) rfl (src_new wr _ [_] (m := 1) rfl (by intro u hu; simp at hu; subst hu; rfl)) (by omega) (by simp; omega) ?_; intro ve we hown hg hat; refine stop_in ?_)
            refine stop_out ?_
            obtain ⟨A3, cap3, hve⟩ := own_form hown
            have O3 : Hid (OR we w.heap.size ve (rs ++ [ps]) (ss ++ [.slice A2 ps.length cap2])) := Lib.hid ((O.out.ext (ext_alloc _ _)).push TP_ne_TR ((own_ext P.out (ext_alloc _ _)).rebase hzr) L.out (fun g hg => (P.out.lt g hg).1) hown hg)
            have D3 := Lib.hid ((D.out.ext (ext_alloc _ _)).grown hg (fun k hk => by have := O.out.lt k hk; omega))
            have G3 := Lib.hid (grown_own (grown_alloc G2.out _) hg (fun k hk => O.out.lt k hk))
            have hve' : ve = .slice A3 (rs ++ [ps]).length cap3 := by rw [hve, List.length_append]; rfl
            have hrl : (rs ++ [ps]).length + (m - 1) ≤ 3 := by rw [List.length_append]; simp; omega
            have Hal3 : Hid (RgsN (rs ++ [ps]) 3 7) := Lib.hid ⟨by omega, (rgsN_snoc Hall.out (by omega) Hpa.out).2⟩
            clear hown hg hat hve
            subst hve'
            go_wp2
            go_roundw
            case rel => exact ⟨m - 1, A3, cap3, _, _, by go_num, rfl, by omega, hrl, Hal3.out, O3.out, D3.out.mono (by omega), G3.out⟩
            case measure => simp [intOf]; omega
      · go_wp2
        go_ret
        exact ⟨A, cap, rs, ss, rfl, Hall.out.mono (by omega) (by omega), O.out, D.out.mono (by omega), G.out⟩
end Go.Proofs.Ytmoobdohhnficaa
