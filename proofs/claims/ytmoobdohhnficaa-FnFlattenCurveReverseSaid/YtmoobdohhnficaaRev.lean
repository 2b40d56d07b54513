/-
  Polygons reversed: the walk.
-/
import Derived.Test.YtmoobdohhnficaaGenS
namespace Go.Proofs.Ytmoobdohhnficaa
open Go Go.RowKit Reg
attribute [local go_sem] calmAt calmUpon
theorem psB_rev (r : Rg) : psB r.reverse = psB r := by simp [psB]
theorem rgB_rev (r : Rg) : rgB r.reverse = rgB r := by simp [rgB, psB_rev]
theorem corners_rev (rs : List Rg) : corners (rs.map List.reverse) = corners rs := by unfold corners; rw [List.map_map]; congr 1; apply List.map_congr_left; intro r _; simp
theorem rgsB_rev (rs : List Rg) : rgsB (rs.map List.reverse) = rgsB rs := by
  unfold rgsB
  rw [corners_rev, List.length_map, List.all_map]
  congr 2
  funext r; exact rgB_rev r
theorem rgsB_one {r : Rg} (h : 0 < r.length ∧ psB r = true) : rgsB [r] = true := by
  rw [rgsB_iff]
  refine ⟨fun q hq => by simp at hq; subst hq; exact h, by simp, ?_⟩
  have := psB_len h.2
  simp [corners]; omega
set_option maxRecDepth 100000 in
set_option maxHeartbeats 4000000 in
theorem c_reversed (A : Option Addr) (cap : Nat) (rs : List Rg) (w : World) (h : Rgs w A rs) (hl : rs.length ≤ 1000) (hc : corners rs ≤ 1000000) :
    Calls Try.prog 12 #[.slice A rs.length cap] w (RetRg w (rs.map List.reverse)) := by
  have H := Lib.hid h
  have Hc := Lib.hid hc
  have E := Lib.hid (Below.refl w.heap.size w)
  obtain ⟨RV, hRV⟩ : ∃ R, rs.map List.reverse = R := ⟨_, rfl⟩
  rw [hRV]
  have HRV := Lib.hid hRV
  clear h hc hRV
  go_enter Try.func12, Try.ntmps12
  go_wp2_with fail
  first | refine gen_calls ?_ | refine gen_code ?_ | refine gen_list ?_
  intro w1 hW
  obtain ⟨hb, hR1⟩ := new1 hW
  clear hW
  replace E := Lib.hid (Ext.trans E.out hb)
  clear hb
  have R1 := Lib.hid hR1
  have lR1 := R1.out.lt
  clear hR1
  have O := Lib.hid (⟨rfl, own_of_row (n := 0) R1.out (Nat.le_refl _) rfl (by decide), fun i hi => by simp at hi, fun i j hi => by simp at hi⟩ : OR w1 w.heap.size (.slice (some ⟨w.heap.size, 0, none⟩) 0 0) [] [])
  go_loopw [3, 4, 5, 6] (fun v i _ _ wr => ∃ (k : Nat) (A1 : Option Addr) (cap1 : Nat) (out : List Rg) (ss : List Value), k ≤ rs.length ∧ i = .int .i64 k ∧ v = .slice A1 out.length cap1 ∧ out = (rs.take k).map List.reverse ∧ OR wr w.heap.size (.slice A1 out.length cap1) out ss ∧ Below w.heap.size w wr) (fun _ i _ _ _ => rs.length - (intOf i).toNat)
  case atStart => exact ⟨0, _, 0, [], [], Nat.zero_le _, rfl, rfl, by simp, O.out, E.out⟩
  case round =>
    obtain ⟨k, A1, cap1, out, ss, hk, rfl, rfl, hout, hor, hbw⟩ := hrel
    clear O E R1 lR1
    have O := Lib.hid hor
    have E := Lib.hid hbw
    have Hout := Lib.hid hout
    have hol : out.length ≤ k := by rw [hout]; simp; omega
    have hzr : w.heap.size ≤ wr.heap.size := hbw.size
    clear hor hbw hout
    by_cases hlt : k < rs.length
    · obtain ⟨b, off, hA, hbw0, hc⟩ := H.out.rgs (by omega)
      have hbo : b < wr.heap.size := by omega
      subst hA
      obtain ⟨A', cap', cr, hp, hle, hmx⟩ := hc k hlt
      have hrl : rs[k].length ≤ 1000000 := Nat.le_trans (corners_ge (List.getElem_mem hlt)) Hc.out
      have Hn : Hid (out ++ [rs[k].reverse] = (rs.take (k + 1)).map List.reverse) := Lib.hid (by rw [Hout.out, List.take_succ_eq_append_getElem hlt, List.map_append]; rfl)
      have Hp := Lib.hid hp
      have Cr := Lib.hid cr
      clear hc hp cr
      generalize rs[k] = r at *
      have L := Lib.hid (fun i hi g hg => (O.out.old i hi g hg).2)
      obtain ⟨wo, hwo⟩ : ∃ wo : World, wo = wr := ⟨_, rfl⟩
      subst hwo
      have X := Lib.hid (Below.refl wo.heap.size wo)
      have hkI : (k : Int) < (rs.length : Int) := by omega
      have hkI2 : decide ((k : Int) < (rs.length : Int)) = true := by simp; omega
      have cCr := Cls.cell E.out Cr.out
      go_wp2_with fail
      clear cCr
      first | refine gen_calls ?_ | refine gen_code ?_ | refine gen_list ?_
      intro w2 hW
      obtain ⟨hb, hR1⟩ := new1 hW
      clear hW
      replace E := Lib.hid (Ext.trans E.out hb)
      replace X := Lib.hid (Ext.trans X.out hb)
      replace O := Lib.hid (O.out.ext hb)
      clear hb
      have R1 := Lib.hid hR1
      have lR1 := R1.out.lt
      clear hR1
      have cCr := Cls.cell E.out Cr.out
      clear cCr
      have P := Lib.hid (own_of_row (n := 0) (B := wo.heap.size) (sz := 2) R1.out (Nat.le_refl _) rfl (by decide))
      go_loopw [5, 6] (fun v i wr => ∃ (m j : Nat) (A2 : Option Addr) (cap2 : Nat) (ps : List Pt), m + j = r.length ∧ i = .int .i64 ((j : Int) - 1) ∧ v = .slice A2 ps.length cap2 ∧ ps = (r.drop j).reverse ∧ Has wr wo.heap.size 44 2 (.slice A2 ps.length cap2) ps.length (ps.flatMap ptC) ∧ OR wr w.heap.size (.slice A1 out.length cap1) out ss ∧ Ext wo wr ∧ Below w.heap.size w wr) (fun _ i _ => (intOf i + 1).toNat)
      case atStart => exact ⟨0, r.length, _, 0, [], by omega, rfl, rfl, by simp, P.out, O.out, X.out, E.out⟩
      case round =>
        obtain ⟨m, j, A2, cap2, ps, hmj, rfl, rfl, hps, hpo, hor, hx, hbw⟩ := hrel
        have Hmj := Lib.hid hmj
        have hj : j ≤ r.length := by omega
        have hpl : ps.length ≤ m := by rw [hps]; simp; omega
        have Hps := Lib.hid hps
        clear O E X P R1 lR1 hmj hps
        have O := Lib.hid hor
        have E := Lib.hid hbw
        have X := Lib.hid hx
        have P := Lib.hid hpo
        have hzx : wo.heap.size ≤ wr.heap.size := hx.size
        have hmb : m ≤ 1000000 := by have := Hmj.out; omega
        clear hor hbw hx hpo
        by_cases hj0 : 0 < j
        · have hjl : j - 1 < r.length := by omega
          obtain ⟨b3, off3, hA, _, hc⟩ := Hp.out.pts (by omega)
          subst hA
          obtain ⟨ax, ay⟩ := hc (j - 1) hjl
          have Hnx : Hid (ps ++ [r[j - 1]] = (r.drop (j - 1)).reverse) := Lib.hid (by
            have e : j - 1 + 1 = j := by omega
            rw [List.drop_eq_getElem_cons hjl, List.reverse_cons, e, Hps.out])
          clear hc
          generalize r[j - 1] = q at *
          have Ax := Lib.hid ax
          have Ay := Lib.hid ay
          clear ax ay
          have hneed : (0 : Int) ≤ (j : Int) - 1 ∧ (1 : Int) ≤ (j : Int) ∧ (j : Int) - 1 < (r.length : Int) := by omega
          have n1 : ((j : Int) - 1).toNat = j - 1 := by omega
          have N1 := Lib.hid n1
          clear n1
          obtain ⟨h1, h2, h3⟩ := hneed
          have n1 := N1.out
          have cCr := Cls.cell E.out Cr.out
          have cAx := Cls.cell E.out Ax.out
          have cAy := Cls.cell E.out Ay.out
          go_wp2_with (at_builtin; refine wpList_app (base := wo.heap.size) ei_pt rfl (.tmp 25) (.tmp 33) rfl rfl (own_ext P.out (ext_alloc _ _)) rfl (src_new _ _ [_, _] (m := 1) rfl (by intro u hu; simp only [List.mem_cons, List.not_mem_nil, or_false] at hu; rcases hu with rfl | rfl <;> rfl)) (by omega) (by simp; omega) ?_; intro ve w4 hown hg hat; refine stop_in ?_)
          refine stop_out ?_
          obtain ⟨A3, cap3, hve⟩ := own_form hown
          clear cCr cAx cAy
          replace E := Lib.hid (Below.grown (Ext.trans E.out (ext_alloc _ _)) hg (by simp; omega) (fun k hk => by have := (P.out.lt k hk).1; omega))
          replace X := Lib.hid (Below.grown (Ext.trans X.out (ext_alloc _ _)) hg (by simp; omega) (fun k hk => by have := (P.out.lt k hk).1; omega))
          replace O := Lib.hid ((O.out.ext (ext_alloc _ _)).grownN TP_ne_TR L.out hg (fun k hk => (P.out.lt k hk).1) (own_ne O.out.out P.out (Ne.symm TP_ne_TR)))
          have heq : ps ++ [q] = (ps ++ [q]) := rfl
          replace P : Hid (Has w4 wo.heap.size 44 2 (.slice A3 ((ps ++ [q])).length cap3) ((ps ++ [q])).length (((ps ++ [q])).flatMap ptC)) := Lib.hid (by
            have q := hown
            rw [hve] at q
            rw [← heq, List.flatMap_append, List.length_append]
            exact q)
          have hvf : ve = .slice A3 ((ps ++ [q])).length cap3 := by rw [hve, ← heq, List.length_append]; rfl
          clear hve
          clear hown hg hat heq
          subst hvf
          have cCr := Cls.cell E.out Cr.out
          have cAx := Cls.cell E.out Ax.out
          have cAy := Cls.cell E.out Ay.out
          clear cCr cAx cAy
          clear n1
          go_wp2
          go_roundw
          case rel => exact ⟨m + 1, j - 1, A3, cap3, _, by have := Hmj.out; omega, by congr 1; omega, rfl, Hnx.out, P.out, O.out, X.out, E.out⟩
          case measure => simp [intOf]; omega
        · obtain rfl : j = 0 := by omega
          have Hf : Hid (ps = r.reverse) := Lib.hid (by rw [Hps.out]; simp)
          go_wp2_with (at_builtin; refine wpList_app (base := w.heap.size) ei_rg rfl (.tmp 35) (.tmp 37) rfl rfl (own_ext O.out.out (ext_alloc _ _)) rfl (src_new wr _ [_] (m := 1) rfl (by intro u hu; simp at hu; subst hu; rfl)) (by omega) (by simp; omega) ?_; intro ve we hown hg hat; refine stop_in ?_)
          refine stop_out ?_
          obtain ⟨A3, cap3, hve⟩ := own_form hown
          have O3 : Hid (OR we w.heap.size ve (out ++ [ps]) (ss ++ [.slice A2 ps.length cap2])) := Lib.hid ((O.out.ext (ext_alloc _ _)).push TP_ne_TR ((own_ext P.out (ext_alloc _ _)).rebase hzr) L.out (fun g hg => (P.out.lt g hg).1) hown hg)
          have E3 := Lib.hid (own_below (Ext.trans E.out (ext_alloc _ _)) (own_ext O.out.out (ext_alloc _ _)) hg (by simp; omega))
          have hve' : ve = .slice A3 (out ++ [ps]).length cap3 := by rw [hve, List.length_append]; rfl
          clear hown hg hat hve
          subst hve'
          go_wp2
          go_roundw
          case rel => exact ⟨k + 1, A3, cap3, _, _, by omega, by go_num, rfl, by rw [Hf.out, Hn.out], O3.out, E3.out⟩
          case measure => simp [intOf]; omega
    · have hk' : k = rs.length := by omega
      have Hf : Hid (RV = out) := Lib.hid (by rw [← HRV.out, Hout.out, hk', List.take_length])
      clear hk'
      go_wp2
      go_ret
      rw [Hf.out]
      exact ⟨A1, cap1, ss, rfl, O.out, E.out⟩
end Go.Proofs.Ytmoobdohhnficaa
