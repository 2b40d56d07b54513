/-
  All points of polygons, and points drawn near them: the walks.
-/
import Derived.Test.YteankmkhieckbaaGenT
import Derived.Test.YteankmkhieckbaaStepW
namespace Go.Proofs.Yteankmkhieckbaa
open Go Go.RowKit Reg
attribute [local go_sem] calmAt calmUpon
theorem flatten_len (rs : List Rg) : rs.flatten.length = corners rs := by simp [corners, List.length_flatten]
theorem corners_le300 {rs : List Rg} (h : ∀ r ∈ rs, r.length ≤ 300) : corners rs ≤ 300 * rs.length := by
  induction rs with
  | nil => simp [corners]
  | cons r rs ih =>
    have h1 := h r List.mem_cons_self
    have h2 := ih fun q hq => h q (List.mem_cons_of_mem _ hq)
    rw [corners_cons, List.length_cons]; omega
set_option maxRecDepth 100000 in
set_option maxHeartbeats 4000000 in
theorem c_corners (A : Option Addr) (cap : Nat) (rs : List Rg) (w : World) (h : Rgs w A rs) (hl : rs.length ≤ 1000) (hc : corners rs ≤ 1000000) :
    Calls Try.prog 83 #[.slice A rs.length cap] w fun e w' => ∃ A' cap', e = .returned (.slice A' rs.flatten.length cap') ∧ Has w' w.heap.size 40 2 (.slice A' rs.flatten.length cap') rs.flatten.length (rs.flatten.flatMap ptC) ∧ Below w.heap.size w w' := by
  have H := Lib.hid h
  have Hc := Lib.hid hc
  obtain ⟨F, hF⟩ : ∃ F, rs.flatten = F := ⟨_, rfl⟩
  rw [hF]
  have HF := Lib.hid hF
  have E := Lib.hid (Below.refl w.heap.size w)
  clear h hc hF
  go_enter Try.func83, Try.ntmps83
  go_wp2_with fail
  first | refine gen_calls ?_ | refine gen_code ?_ | refine gen_list ?_
  intro w1 hW
  obtain ⟨hb, hR1⟩ := new1 hW
  clear hW
  replace E := Lib.hid (Ext.trans E.out hb)
  clear hb
  have R1 := Lib.hid hR1
  have lR1 := R1.out.lt
  clear hR1
  have O := Lib.hid (own_of_row (n := 0) (B := w.heap.size) (sz := 2) R1.out (Nat.le_refl _) rfl (by decide))
  go_loopw [3, 4] (fun v i wr => ∃ (k : Nat) (A1 : Option Addr) (cap1 : Nat) (out : List Pt), k ≤ rs.length ∧ i = .int .i64 k ∧ v = .slice A1 out.length cap1 ∧ out = (rs.take k).flatten ∧ Has wr w.heap.size 40 2 (.slice A1 out.length cap1) out.length (out.flatMap ptC) ∧ Below w.heap.size w wr) (fun _ i _ => rs.length - (intOf i).toNat)
  case atStart => exact ⟨0, _, 0, [], Nat.zero_le _, rfl, rfl, by simp, O.out, E.out⟩
  case round =>
    obtain ⟨k, A1, cap1, out, hk, rfl, rfl, hout, how, hbw⟩ := hrel
    clear O E R1 lR1
    have O := Lib.hid how
    have E := Lib.hid hbw
    have Hout := Lib.hid hout
    have hzr : w.heap.size ≤ wr.heap.size := hbw.size
    clear how hbw hout
    by_cases hlt : k < rs.length
    · obtain ⟨b, off, hA, hbw0, hc⟩ := H.out.rgs (by omega)
      have hbo : b < wr.heap.size := by omega
      subst hA
      obtain ⟨A', cap', cr, hp, hle, hmx⟩ := hc k hlt
      have Hn : Hid (out ++ rs[k] = (rs.take (k + 1)).flatten) := Lib.hid (by rw [Hout.out, List.take_succ_eq_append_getElem hlt, List.flatten_append]; simp)
      have hlen : out.length + rs[k].length ≤ 1000000 := by
        have h1 := Hc.out
        have h2 : corners (rs.take (k + 1)) ≤ corners rs := by
          conv => rhs; rw [← List.take_append_drop (k + 1) rs]
          rw [corners_append]; omega
        rw [← flatten_len, ← Hn.out, List.length_append] at h2; omega
      have Hp := Lib.hid hp
      have Cr := Lib.hid cr
      clear hc hp cr
      generalize rs[k] = r at *
      have cCr := Cls.cell E.out Cr.out
      go_wp2_with (at_builtin; refine wpList_app (base := w.heap.size) ei_pt rfl (.tmp 12) (.tmp 16) rfl rfl O.out rfl ((Hp.out.ext ptR_stab E.out).src ptC_len (fun x us h => h) ptC_one (by decide)) (by omega) hzr ?_; intro ve we hown hg hat; refine stop_in ?_)
      refine stop_out ?_
      clear cCr
      obtain ⟨A3, cap3, hve⟩ := own_form hown
      have O3 : Hid (Has we w.heap.size 40 2 (.slice A3 (out ++ r).length cap3) (out ++ r).length ((out ++ r).flatMap ptC)) := Lib.hid (by
        rw [hve] at hown; rw [List.length_append, List.flatMap_append]; exact hown)
      have hve' : ve = .slice A3 (out ++ r).length cap3 := by rw [hve, List.length_append]
      have E3 := Lib.hid (own_below E.out O.out hg hzr)
      clear hown hg hat hve
      subst hve'
      go_wp2
      go_roundw
      case rel => exact ⟨k + 1, A3, cap3, _, by omega, by go_num, rfl, Hn.out, O3.out, E3.out⟩
      case measure => simp [intOf]; omega
    · have hk' : k = rs.length := by omega
      have Hf : Hid (out = F) := Lib.hid (by rw [Hout.out, hk', List.take_length, HF.out])
      clear hk'
      go_wp2
      go_ret
      exact ⟨A1, cap1, ret_sl (by rw [Hf.out]), by rw [← Hf.out]; exact O.out, E.out⟩
set_option maxRecDepth 100000 in
set_option maxHeartbeats 4000000 in
theorem c_nearPoint (g N : Nat) (A : Option Addr) (cap : Nat) (rs : List Rg) (w : World) (h : Rdr w g N) (hN : N + 10 ≤ 1000000) (hrs : Rgs w A rs) (hal : RgsN rs 40 300) :
    Calls Try.prog 57 #[.pointer (some ⟨g, 0, none⟩), .slice A rs.length cap] w fun e w' => DrewPt w w' e g (N + 10) := by
  have hlt := h.lt
  have D := Lib.hid h
  have G : Hid (w.grownBy w (some g)) := Lib.hid (only_refl _ _)
  have S := Lib.hid hrs
  have hrl := hal.1
  have hcs : corners rs ≤ 300 * rs.length := corners_le300 (fun r hr => (hal.2 r hr).1)
  have Hal := Lib.hid hal.2
  clear h hrs hal
  go_enter Try.func57, Try.ntmps57
  go_wp2_with fail
  first | refine gen_calls ?_ | refine gen_code ?_ | refine gen_list ?_
  intro w1 hW
  obtain ⟨hb, hZ⟩ := new1 hW
  clear hW
  replace D := Lib.hid (D.out.ext hb)
  replace G := Lib.hid (grown_trans G.out (grown_ext hb))
  replace S := Lib.hid (S.out.ext rgR_stab hb)
  clear hb
  have Z := Lib.hid hZ
  have lZ := Z.out.lt
  clear hZ
  go_wp2_with fail
  refine (c_corners A cap rs _ S.out (by omega) (by omega)).mono ?_
  rintro e w2 ⟨A1, cap1, rfl, ho1, hb⟩
  have hz12 := hb.size
  replace D := Lib.hid (D.out.ext hb)
  replace G := Lib.hid (grown_trans G.out (grown_ext hb))
  replace S := Lib.hid (S.out.ext rgR_stab hb)
  replace Z := Lib.hid (Z.out.ext hb)
  have lZ := Z.out.lt
  clear hb
  have O := Lib.hid (ho1)
  clear ho1
  have Hp : Hid (∀ p ∈ rs.flatten, CrdP p) := Lib.hid (fun p hp => by
    obtain ⟨r, hr, hp⟩ := List.mem_flatten.1 hp
    exact (Hal.out r hr).2 p hp)
  have hfl : rs.flatten.length ≤ 12000 := by rw [flatten_len]; omega
  generalize rs.flatten = ps at *
  clear S
  have hgl2 := D.out.lt
  have hcase : (0 < ps.length) ∨ ¬ (0 < ps.length) := by omega
  rcases hcase with hpos | hpos
  · have hposI : (0 : Int) < (ps.length : Int) := by omega
    have hne : ¬ ps = [] := by intro hh; subst hh; simp at hpos
    go_wp2_with fail
    refine (c_pick g _ 3 _ D.out (by omega)).mono ?_
    rintro e w3 ⟨v, rfl, _, hr, hg⟩
    replace G := Lib.hid (grown_trans G.out hg)
    replace Z := Lib.hid (Z.out.keptR hg (by omega))
    have lZ := Z.out.lt
    replace O := Lib.hid (O.out.keptR D.out PT_ne_RD hg)
    replace D := Lib.hid hr
    clear hr hg
    by_cases hv0 : v = 0
    · have hb0 : (v == 0) = true := by simp [hv0]
      clear hv0
      go_wp2_with fail
      refine (c_pick g _ ps.length _ D.out (by omega)).mono ?_
      rintro e w4 ⟨v4, rfl, ⟨hv1, hv2⟩, hr, hg⟩
      replace G := Lib.hid (grown_trans G.out hg)
      replace Z := Lib.hid (Z.out.keptR hg (by omega))
      have lZ := Z.out.lt
      replace O := Lib.hid (O.out.keptR D.out PT_ne_RD hg)
      replace D := Lib.hid hr
      clear hr hg
      have hv2 := hv2 (by omega)
      obtain ⟨k, rfl⟩ : ∃ k : Nat, v4 = (k : Int) := ⟨v4.toNat, by omega⟩
      have hk : k < ps.length := by omega
      have P : Hid (Pts w4 A1 ps) := Lib.hid (own_in (enc := ptC) (R := ptR) ptC_len (by decide) O.out (fun _ => rfl))
      obtain ⟨b, off, hA, _, hc⟩ := P.out.pts hpos
      subst hA
      obtain ⟨ax, ay⟩ := hc k hk
      have hq := Hp.out _ (List.getElem_mem hk)
      clear hc
      generalize ps[k] = q at *
      have z0 := Z.out.cell_of (i := 0) rfl
      have zz0 := Z.out.frozen 0
      have z1 := Z.out.cell_of (i := 1) rfl
      have zz1 := Z.out.frozen 1
      go_wp2_with fail
      exact bodyPost_ret (v := ptV q) (by simp [results, Try.results57, go_sem, z0, z1]) rfl ⟨q, rfl, hq, ((D.out.far (p := ⟨w.heap.size, 0, none⟩) (by simp; omega) _).far (p := ⟨w.heap.size, 1, none⟩) (by simp; omega) _).mono (by omega), grown_far (grown_far G.out (p := ⟨w.heap.size, 0, none⟩) (by simp) _) (p := ⟨w.heap.size, 1, none⟩) (by simp) _⟩
    · have hb0 : (v == 0) = false := by simp [hv0]
      clear hv0
      go_wp2_with fail
      refine (c_anyPoint g _ _ D.out (by omega)).mono ?_
      rintro e w4 ⟨q, rfl, hq, hr, hg⟩
      replace G := Lib.hid (grown_trans G.out hg)
      replace Z := Lib.hid (Z.out.keptR hg (by omega))
      have lZ := Z.out.lt
      replace O := Lib.hid (O.out.keptR D.out PT_ne_RD hg)
      replace D := Lib.hid hr
      clear hr hg
      have z0 := Z.out.cell_of (i := 0) rfl
      have zz0 := Z.out.frozen 0
      have z1 := Z.out.cell_of (i := 1) rfl
      have zz1 := Z.out.frozen 1
      go_wp2_with fail
      exact bodyPost_ret (v := ptV q) (by simp [results, Try.results57, go_sem, z0, z1]) rfl ⟨q, rfl, hq, ((D.out.far (p := ⟨w.heap.size, 0, none⟩) (by simp; omega) _).far (p := ⟨w.heap.size, 1, none⟩) (by simp; omega) _).mono (by omega), grown_far (grown_far G.out (p := ⟨w.heap.size, 0, none⟩) (by simp) _) (p := ⟨w.heap.size, 1, none⟩) (by simp) _⟩
  · have hposI : ¬ (0 : Int) < (ps.length : Int) := by omega
    go_wp2_with fail
    refine (c_anyPoint g _ _ D.out (by omega)).mono ?_
    rintro e w4 ⟨q, rfl, hq, hr, hg⟩
    replace G := Lib.hid (grown_trans G.out hg)
    replace Z := Lib.hid (Z.out.keptR hg (by omega))
    have lZ := Z.out.lt
    replace O := Lib.hid (O.out.keptR D.out PT_ne_RD hg)
    replace D := Lib.hid hr
    clear hr hg
    have z0 := Z.out.cell_of (i := 0) rfl
    have zz0 := Z.out.frozen 0
    have z1 := Z.out.cell_of (i := 1) rfl
    have zz1 := Z.out.frozen 1
    go_wp2_with fail
    exact bodyPost_ret (v := ptV q) (by simp [results, Try.results57, go_sem, z0, z1]) rfl ⟨q, rfl, hq, ((D.out.far (p := ⟨w.heap.size, 0, none⟩) (by simp; omega) _).far (p := ⟨w.heap.size, 1, none⟩) (by simp; omega) _).mono (by omega), grown_far (grown_far G.out (p := ⟨w.heap.size, 0, none⟩) (by simp) _) (p := ⟨w.heap.size, 1, none⟩) (by simp) _⟩
def RetNear2 (w : World) (e : Ending) (w' : World) : Prop := ∃ A cap, ∃ rs : List Rg, ∃ x y : Int, e = .returned (.tuple #[.slice A rs.length cap, .int .i64 x, .int .i64 y]) ∧ RgsN rs 40 300 ∧ rs.length ≤ cap ∧ CrdP (x, y) ∧ Rgs w' A rs ∧ Ext w w'
set_option maxRecDepth 100000 in
set_option maxHeartbeats 1000000 in
theorem c_DrawWindingAt (A : Option Addr) (cap : Nat) (bs : List Int) (w : World) (h : In byteR 1 w A bs) (hc : bs.length ≤ cap) (hl : cap ≤ 9223372036854775807) :
    Calls Try.prog 32 #[.slice A bs.length cap] w (RetNear2 w) := by
  have K := Lib.hid (c_newReader A cap bs w h hc hl)
  clear h
  go_enter Try.func32, Try.ntmps32
  go_wp2_with fail
  refine K.out.mono ?_
  rintro e w1 ⟨g, rfl, hg1, hr1, hb1⟩
  have D := Lib.hid hr1
  have E := Lib.hid hb1
  have hz1 := hb1.size
  clear hr1 hb1 K
  go_wp2_with fail
  refine (c_anyRings g 0 w1 D.out (by omega)).mono ?_
  rintro e w2 ⟨A1, cap1, rs, ss, rfl, hal, hor, hr, hg⟩
  replace E := Lib.hid (below_grown E.out hg (by omega) E.out.size)
  replace D := Lib.hid hr
  have O := Lib.hid (hor)
  clear hor
  clear hr hg
  have Hal := Lib.hid hal
  clear hal
  go_wp2_with fail
  refine (c_nearPoint g _ A1 cap1 rs _ D.out (by omega) O.out.in_ Hal.out).mono ?_
  rintro e w3 ⟨q, rfl, hq, hr, hg⟩
  replace E := Lib.hid (below_grown E.out hg (by omega) E.out.size)
  replace O := Lib.hid (O.out.keptR D.out hg)
  replace D := Lib.hid hr
  clear hr hg
  obtain ⟨x, y⟩ := q
  go_wp2_with fail
  first | refine gen_calls ?_ | refine gen_code ?_ | refine gen_list ?_
  intro w4 hW
  obtain ⟨hb, hQ⟩ := new1 hW
  clear hW
  replace E := Lib.hid (Ext.trans E.out hb)
  replace O := Lib.hid (O.out.ext hb)
  clear hb
  have Q := Lib.hid hQ
  have lQ := Q.out.lt
  clear hQ
  have q0 := Q.out.cell_of (i := 0) rfl
  have q1 := Q.out.cell_of (i := 1) rfl
  refine wp_region_calm [0,1,2,3,4,5,6,7] [] (by kernel_rfl) (by kernel_rfl) ?_
  (refine calm_yes rfl rfl (fun w' hC => (by have q0 := hC.cell q0; have q1 := hC.cell q1; go_simp; rfl)) (fun K hK => ?_); go_simp; refine hK _ ?_; clear hK K)
  (refine calm_yes rfl rfl (fun w' hC => (by have q0 := hC.cell q0; have q1 := hC.cell q1; go_simp; rfl)) (fun K hK => ?_); go_simp; refine hK _ ?_; clear hK K)
  (refine calm_yes rfl rfl (fun w' hC => (by have q0 := hC.cell q0; have q1 := hC.cell q1; go_simp; rfl)) (fun K hK => ?_); go_simp; refine hK _ ?_; clear hK K)
  (refine calm_yes rfl rfl (fun w' hC => (by have q0 := hC.cell q0; have q1 := hC.cell q1; go_simp; rfl)) (fun K hK => ?_); go_simp; refine hK _ ?_; clear hK K)
  (refine calm_yes rfl rfl (fun w' hC => (by have q0 := hC.cell q0; have q1 := hC.cell q1; go_simp; rfl)) (fun K hK => ?_); go_simp; refine hK _ ?_; clear hK K)
  (refine calm_yes rfl rfl (fun w' hC => (by have q0 := hC.cell q0; have q1 := hC.cell q1; go_simp; rfl)) (fun K hK => ?_); go_simp; refine hK _ ?_; clear hK K)
  (refine calm_yes rfl rfl (fun w' hC => (by have q0 := hC.cell q0; have q1 := hC.cell q1; go_simp; rfl)) (fun K hK => ?_); go_simp; refine hK _ ?_; clear hK K)
  (refine calm_yes rfl rfl (fun w' hC => (by have q0 := hC.cell q0; have q1 := hC.cell q1; go_simp; rfl)) (fun K hK => ?_); go_simp; refine hK _ ?_; clear hK K)
  refine calm_done (fun w5 hb => ?_)
  clear q0 q1
  replace E := Lib.hid (Ext.trans E.out hb)
  replace O := Lib.hid (O.out.ext hb)
  replace Q := Lib.hid (Q.out.ext hb)
  have lQ := Q.out.lt
  clear hb
  have q0 := Q.out.cell_of (i := 0) rfl
  have q1 := Q.out.cell_of (i := 1) rfl
  go_wp2
  go_ret3
  exact ⟨A1, cap1, rs, x, y, rfl, Hal.out, O.out.out.slok.2.1, hq, O.out.in_, E.out⟩
set_option maxRecDepth 100000 in
set_option maxHeartbeats 1000000 in
theorem c_DrawBackdropOf (A : Option Addr) (cap : Nat) (bs : List Int) (w : World) (h : In byteR 1 w A bs) (hc : bs.length ≤ cap) (hl : cap ≤ 9223372036854775807) :
    Calls Try.prog 36 #[.slice A bs.length cap] w (RetNear2 w) := by
  have K := Lib.hid (c_newReader A cap bs w h hc hl)
  clear h
  go_enter Try.func36, Try.ntmps36
  go_wp2_with fail
  refine K.out.mono ?_
  rintro e w1 ⟨g, rfl, hg1, hr1, hb1⟩
  have D := Lib.hid hr1
  have E := Lib.hid hb1
  have hz1 := hb1.size
  clear hr1 hb1 K
  go_wp2_with fail
  refine (c_anyRings g 0 w1 D.out (by omega)).mono ?_
  rintro e w2 ⟨A1, cap1, rs, ss, rfl, hal, hor, hr, hg⟩
  replace E := Lib.hid (below_grown E.out hg (by omega) E.out.size)
  replace D := Lib.hid hr
  have O := Lib.hid (hor)
  clear hor
  clear hr hg
  have Hal := Lib.hid hal
  have hgl := D.out.lt
  clear hal
  go_wp2_with fail
  first | refine gen_calls ?_ | refine gen_code ?_ | refine gen_list ?_
  intro w3 hW
  obtain ⟨hb, hR2⟩ := new1 hW
  clear hW
  replace D := Lib.hid (D.out.ext hb)
  replace E := Lib.hid (Ext.trans E.out hb)
  replace O := Lib.hid (O.out.ext hb)
  clear hb
  have R2 := Lib.hid hR2
  have lR2 := R2.out.lt
  clear hR2
  have I2 := Lib.hid (Row.in_ (rest := []) (enc := intC) (xs := [0, 4, 8, 12, 13, -1, 3]) (sz := 1) (R := intR) (fun _ => rfl) (by simpa [intC] using R2.out) (fun _ _ => rfl))
  clear R2
  go_wp2_with fail
  refine (c_one g _ _ 7 [0, 4, 8, 12, 13, -1, 3] _ D.out (by omega) I2.out (by simp) (by simp) (fun b off hA => by cases hA; omega)).mono ?_
  rintro e w4 ⟨x, rfl, hx, hr, hg⟩
  replace E := Lib.hid (below_grown E.out hg (by omega) E.out.size)
  replace O := Lib.hid (O.out.keptR D.out hg)
  replace D := Lib.hid hr
  clear hr hg
  have hx : -1 ≤ x ∧ x ≤ 13 := by simp at hx; omega
  clear I2
  go_wp2_with fail
  refine (c_anyRow g _ _ D.out (by omega)).mono ?_
  rintro e w5 ⟨y, rfl, hy, hr, hg⟩
  replace E := Lib.hid (below_grown E.out hg (by omega) E.out.size)
  replace O := Lib.hid (O.out.keptR D.out hg)
  replace D := Lib.hid hr
  clear hr hg
  have hy : -1 ≤ y ∧ y ≤ 48 := by simp at hy; omega
  go_wp2
  go_ret3
  exact ⟨A1, cap1, rs, x, y, rfl, Hal.out, O.out.out.slok.2.1, by unfold CrdP Crd; dsimp only; omega, O.out.in_, E.out⟩
end Go.Proofs.Yteankmkhieckbaa
