/-
  The reference's queues of tiles: pushed, popped, stolen from: the walks.
-/
import Derived.Test.YtnmnomhoghkdjaaWorkS
import Derived.Test.YtnmnomhoghkdjaaRegionG
namespace Go.Proofs.Ytnmnomhoghkdjaa
open Go Go.RowKit Reg
attribute [local go_sem] calmAt calmUpon RegG.calmAt RegG.calmUpon
set_option maxRecDepth 100000 in
set_option maxHeartbeats 2000000 in
theorem c_validDeque (d : Dq) (top : Nat) (xs : List Int) (w : World) (h : DqAt w d top xs) : Calls Try.prog 52 #[dqV d] w fun e w' => e = .returned (.bool true) ∧ Below w.heap.size w w' := by
  have HQ := Lib.hid h
  obtain ⟨A, c, t, b⟩ := d
  obtain ⟨rfl, rfl, hle, hI, hs, hb⟩ := h.parts
  clear h
  have hl16 := slotsL_len hle
  have Hal : Hid ((slotsL top xs).all (fun n => inB n (-1) 99) = true) := Lib.hid (List.all_eq_true.2 fun x hx => by
    obtain ⟨i, hi, rfl⟩ := List.getElem_of_mem hx
    have := (slotsL_bd hle hb i hi).1
    rw [inB_iff]; omega)
  have K1 := Lib.hid (fun W hW => c_allIn A c (slotsL top xs) (-1) 99 W hW (by omega))
  rw [Hal.out, hl16] at K1
  have k2 : inB (top : Int) 0 500 = true := by rw [inB_iff]; omega
  have k3 : inB ((top + xs.length : Nat) : Int) (top : Int) ((top : Int) + 16) = true := by rw [inB_iff]; omega
  have h16 : ((top + xs.length : Nat) : Int) ≤ 500 := by omega
  obtain ⟨bn, hbn⟩ : ∃ bn, bn = ((top + xs.length : Nat) : Int) := ⟨_, rfl⟩
  try dsimp only at hI
  try dsimp only
  rw [← hbn] at k3 h16 HQ
  try rw [← hbn]
  have htop : top ≤ 16 := by omega
  clear hs hb Hal hbn hle hl16
  generalize slotsL top xs = ns at *
  have H := Lib.hid hI
  have k2 := Lib.hid k2
  have k3 := Lib.hid k3
  have E := Lib.hid (Below.refl w.heap.size w)
  clear hI
  go_enter Try.func52, Try.ntmps52
  go_wp2_with fail
  first | refine gen_calls ?_ | refine gen_code ?_ | refine gen_list ?_
  intro w0 hW
  obtain ⟨hb, hD⟩ := new1 hW
  clear hW
  replace E := Lib.hid (Ext.trans E.out hb)
  replace H := Lib.hid (H.out.ext intR_stab hb)
  replace HQ := Lib.hid (HQ.out.ext hb)
  clear hb
  have D := Lib.hid hD
  have lD := D.out.lt
  clear hD
  have d0 := D.out.cell_of (i := 0) rfl
  have d1 := D.out.cell_of (i := 1) rfl
  have d2 := D.out.cell_of (i := 2) rfl
  go_wp2_with fail
  refine (K1.out _ H.out).mono ?_
  rintro e w' ⟨rfl, rfl⟩
  go_wp2_with fail
  refine (c_inRange top 0 500 _).mono ?_
  rw [k2.out]
  rintro e w' ⟨rfl, rfl⟩
  go_wp2_with fail
  refine (c_inRange bn top (top + 16) _).mono ?_
  rw [k3.out]
  rintro e w' ⟨rfl, rfl⟩
  go_wp2_with fail
  clear d0 d1 d2
  refine (c_filled _ top xs _ HQ.out).mono ?_
  rintro e w1 ⟨rfl, hb⟩
  replace E := Lib.hid (Ext.trans E.out hb)
  replace H := Lib.hid (H.out.ext intR_stab hb)
  replace HQ := Lib.hid (HQ.out.ext hb)
  replace D := Lib.hid (D.out.ext hb)
  have lD := D.out.lt
  clear hb
  have d0 := D.out.cell_of (i := 0) rfl
  have d1 := D.out.cell_of (i := 1) rfl
  have d2 := D.out.cell_of (i := 2) rfl
  go_wp2
  go_ret
  exact ⟨rfl, E.out⟩
set_option maxRecDepth 100000 in
set_option maxHeartbeats 2000000 in
theorem c_NewDeque (w : World) : Calls Try.prog 47 #[] w fun e w' => ∃ d, e = .returned (dqV d) ∧ DqAt w' d 0 [] ∧ Below w.heap.size w w' := by
  have E := Lib.hid (Below.refl w.heap.size w)
  go_enter Try.func47, Try.ntmps47
  go_wp2_with fail
  first | refine gen_calls ?_ | refine gen_code ?_ | refine gen_list ?_
  intro w0 hW
  obtain ⟨hb, hZ⟩ := new1 hW
  clear hW
  replace E := Lib.hid (Ext.trans E.out hb)
  clear hb
  have Z := Lib.hid hZ
  have lZ := Z.out.lt
  clear hZ
  go_wp2_with fail
  refine (c_empty _).mono ?_
  rintro e w1 ⟨A, cap, rfl, ho, hb⟩
  replace E := Lib.hid (Ext.trans E.out hb)
  replace Z := Lib.hid (Z.out.ext hb)
  have lZ := Z.out.lt
  clear hb
  have O := Lib.hid (ho)
  clear ho
  have z0 := Z.out.cell_of (i := 0) rfl
  have zz0 := Z.out.frozen 0
  have z1 := Z.out.cell_of (i := 1) rfl
  have zz1 := Z.out.frozen 1
  have z2 := Z.out.cell_of (i := 2) rfl
  have zz2 := Z.out.frozen 2
  have Q : Hid (DqAt w1 (A, cap, 0, 0) 0 []) := Lib.hid ⟨rfl, rfl, by simp, O.out.rebase (Nat.zero_le _), by simp⟩
  have hz := E.out.size
  go_wp2_with fail
  have hge := has_ge O.out
  exact bodyPost_ret (v := dqV (A, cap, 0, 0)) (by simp [results, Try.results47, go_sem, z0, z1, z2]) rfl ⟨_, rfl, ((Q.out.far (fun b off hA => by have := hge b off hA; omega) _).far (fun b off hA => by have := hge b off hA; omega) _).far (fun b off hA => by have := hge b off hA; omega) _, ((E.out.setCell (by simp) _).setCell (by simp) _).setCell (by simp) _⟩
set_option maxRecDepth 100000 in
set_option maxHeartbeats 2000000 in
theorem c_PushTile (d : Dq) (top : Nat) (xs : List Int) (x : Int) (w : World) (h : DqAt w d top xs) (hl : top + xs.length < 16) (hx : 0 ≤ x ∧ x ≤ 99) :
    Calls Try.prog 48 #[dqV d, .int .i64 x] w fun e w' => ∃ d', e = .returned (.tuple #[dqV d', .bool true]) ∧ DqAt w' d' top (xs ++ [x]) ∧ Below w.heap.size w w' := by
  have HQ := Lib.hid h
  obtain ⟨A, c, t, b⟩ := d
  obtain ⟨rfl, rfl, hle, hI, hs, hb⟩ := h.parts
  clear h
  have hl16 := slotsL_len hle
  have Hp := Lib.hid (slotsL_push hl x)
  have Hb : Hid (∀ y ∈ xs ++ [x], 0 ≤ y ∧ y ≤ 99) := Lib.hid (fun y hy => by
    rcases List.mem_append.1 hy with h | h
    · exact hb y h
    · simp at h; subst h; exact hx)
  try dsimp only at hI
  try dsimp only
  obtain ⟨bn, hbn⟩ : ∃ bn, bn = top + xs.length := ⟨_, rfl⟩
  rw [← hbn] at Hp hl HQ ⊢
  have hn1 : ((bn : Nat) : Int) - (top : Int) ≠ 16 := by omega
  have hn2 : (((bn : Nat) : Int) - (top : Int) == 16) = false := by simp; omega
  have hn3 : (((bn : Nat) : Int) == 500) = false := by simp; omega
  have hxb := inB_iff (n := x) (lo := 0) (hi := 99) |>.2 hx
  have KW := Lib.hid (fun W hW => c_withSlot A c (slotsL top xs) bn x W hW hl16 hl)
  rw [Hp.out] at KW
  have Hbn : Hid (bn = top + xs.length) := Lib.hid hbn
  have htop : top ≤ bn := by omega
  clear hs hb hle hbn hl16 Hp
  have H := Lib.hid hI
  have Hx := Lib.hid hxb
  have E := Lib.hid (Below.refl w.heap.size w)
  clear hI hxb hn1
  go_enter Try.func48, Try.ntmps48
  go_wp2_with fail
  first | refine gen_calls ?_ | refine gen_code ?_ | refine gen_list ?_
  intro w0 hW
  obtain ⟨hb, hD, hZ⟩ := new2 hW
  clear hW
  replace E := Lib.hid (Ext.trans E.out hb)
  replace H := Lib.hid (H.out.ext intR_stab hb)
  replace HQ := Lib.hid (HQ.out.ext hb)
  clear hb
  have D := Lib.hid hD
  have lD := D.out.lt
  clear hD
  have Z := Lib.hid hZ
  have lZ := Z.out.lt
  clear hZ
  have d0 := D.out.cell_of (i := 0) rfl
  have d1 := D.out.cell_of (i := 1) rfl
  have d2 := D.out.cell_of (i := 2) rfl
  go_wp2_with fail
  clear d0 d1 d2
  refine (c_validDeque _ top xs _ HQ.out).mono ?_
  rintro e w1 ⟨rfl, hb⟩
  replace E := Lib.hid (Ext.trans E.out hb)
  replace H := Lib.hid (H.out.ext intR_stab hb)
  replace HQ := Lib.hid (HQ.out.ext hb)
  replace D := Lib.hid (D.out.ext hb)
  have lD := D.out.lt
  replace Z := Lib.hid (Z.out.ext hb)
  have lZ := Z.out.lt
  clear hb
  have d0 := D.out.cell_of (i := 0) rfl
  have d1 := D.out.cell_of (i := 1) rfl
  have d2 := D.out.cell_of (i := 2) rfl
  go_wp2_with fail
  refine (c_inRange x 0 99 _).mono ?_
  rw [Hx.out]
  rintro e w' ⟨rfl, rfl⟩
  clear d0 d1 d2
  have d0 := D.out.cell_of (i := 0) rfl
  have d1 := D.out.cell_of (i := 1) rfl
  have d2 := D.out.cell_of (i := 2) rfl
  have z0 := Z.out.cell_of (i := 0) rfl
  have zz0 := Z.out.frozen 0
  have z1 := Z.out.cell_of (i := 1) rfl
  have zz1 := Z.out.frozen 1
  have z2 := Z.out.cell_of (i := 2) rfl
  have zz2 := Z.out.frozen 2
  go_wp2_with fail
  have hwr : IntKind.i64.wrap (((bn : Nat) : Int) + 1) = ((bn : Nat) : Int) + 1 := IntWalk.i64_in _ (by omega)
  refine wp_region_calm [0,1,2,3,4,6,7,8,9,10] [5,11,12,13] (by kernel_rfl) (by kernel_rfl) ?_
  iterate 10 ((refine calm_yes rfl rfl (fun w' hC => (by have d0 := hC.cell d0; have d1 := hC.cell d1; have d2 := hC.cell d2; go_simp; rfl)) (fun K hK => ?_); go_simp; refine hK _ ?_; clear hK K))
  refine calm_nil (fun wa hCa => ?_)
  refine late_keep rfl rfl hCa (fun wb hxb hCb K hK => ?_)
  go_simp
  refine (KW.out wb (H.out.ext intR_stab (ext_cls hCb))).mono ?_
  rintro e wd ⟨A1, cap1, rfl, ho1, hb1⟩
  refine hK _ _ (Cls.ext hCb hb1) (fun hCd => ?_)
  clear hK K
  have Q1 : Hid (DqAt wd (A1, cap1, top, ((bn : Nat) : Int) + 1) top (xs ++ [x])) := Lib.hid ⟨rfl, by simp [Hbn.out]; omega, by have := Hbn.out; simp; omega, ho1.rebase (Nat.zero_le _), Hb.out⟩
  have hge := has_ge ho1
  have hwb := (ext_cls hCb).size
  refine late_free (by kernel_rfl) rfl rfl (fun we hxe K hK => ?_)
  go_simp
  refine hK _ _ ?_
  clear hK K
  have E1 := Lib.hid (Ext.trans (Ext.trans E.out (ext_cls hCd)) hxe)
  replace Q1 := Lib.hid (Q1.out.ext hxe)
  replace Z := Lib.hid ((Z.out.ext (ext_cls hCd)).ext hxe)
  clear hxe hCd hCb hCa hxb hb1 ho1
  clear d0 d1 d2 z0 zz0 z1 zz1 z2 zz2
  refine late_free (by kernel_rfl) rfl rfl (fun wf hxf K hK => ?_)
  replace E1 := Lib.hid (Ext.trans E1.out hxf)
  replace Q1 := Lib.hid (Q1.out.ext hxf)
  replace Z := Lib.hid (Z.out.ext hxf)
  clear hxf
  have z0 := Z.out.cell_of (i := 0) rfl
  have zz0 := Z.out.frozen 0
  have z1 := Z.out.cell_of (i := 1) rfl
  have zz1 := Z.out.frozen 1
  have z2 := Z.out.cell_of (i := 2) rfl
  have zz2 := Z.out.frozen 2
  go_simp
  refine hK _ _ ?_
  clear hK K hwr
  clear z0 zz0 z1 zz1 z2 zz2
  refine late_free (by kernel_rfl) rfl rfl (fun wg hxg K hK => ?_)
  have hz1 := E1.out.size
  replace Z := Lib.hid ((((Z.out.set_ 0 _).set_ 1 _).set_ 2 _).ext hxg)
  replace Q1 := Lib.hid (((((Q1.out.far (g := w.heap.size + 1) (i := 0) (fun b off hA => by have := hge b off hA; omega) _).far (g := w.heap.size + 1) (i := 1) (fun b off hA => by have := hge b off hA; omega) _).far (g := w.heap.size + 1) (i := 2) (fun b off hA => by have := hge b off hA; omega) _)).ext hxg)
  replace E1 := Lib.hid (Ext.trans (((E1.out.setCell (p := ⟨w.heap.size + 1, 0, none⟩) (by simp) _).setCell (p := ⟨w.heap.size + 1, 1, none⟩) (by simp) _).setCell (p := ⟨w.heap.size + 1, 2, none⟩) (by simp) _) hxg)
  clear hxg
  go_simp
  refine hK _ _ ?_
  clear hK K
  refine late_nil (fun wh hxh => ?_)
  replace Z := Lib.hid (Z.out.ext hxh)
  replace Q1 := Lib.hid (Q1.out.ext hxh)
  replace E1 := Lib.hid (Ext.trans E1.out hxh)
  clear hxh
  have z0 := Z.out.cell_of (i := 0) rfl
  have z1 := Z.out.cell_of (i := 1) rfl
  have z2 := Z.out.cell_of (i := 2) rfl
  go_wp2_with fail
  exact bodyPost_ret (v := .tuple #[dqV (A1, cap1, top, ((bn : Nat) : Int) + 1), .bool true]) (by simp [results, Try.results48, go_sem, z0, z1, z2]) rfl ⟨_, rfl, Q1.out, E1.out⟩
set_option maxRecDepth 100000 in
set_option maxHeartbeats 2000000 in
theorem c_PopTile0 (d : Dq) (w : World) (h : DqIs w d []) :
    Calls Try.prog 49 #[dqV d] w fun e w' => e = .returned (.tuple #[.agg #[.slice none 0 0, .int .i64 0, .int .i64 0], .int .i64 (-1), .bool false]) ∧ Below w.heap.size w w' := by
  obtain ⟨top, h⟩ := h
  have HQ := Lib.hid h
  obtain ⟨A, c, t, b⟩ := d
  obtain ⟨rfl, rfl, hle, hI, hs, hb⟩ := h.parts
  clear h
  try dsimp only
  have e : ((top + ([] : List Int).length : Nat) : Int) = (top : Int) := by simp
  rw [e] at HQ
  try rw [e]
  clear hI hs hb hle e
  have E := Lib.hid (Below.refl w.heap.size w)
  go_enter Try.func49, Try.ntmps49
  go_wp2_with fail
  first | refine gen_calls ?_ | refine gen_code ?_ | refine gen_list ?_
  intro w0 hW
  obtain ⟨hb, hD, hZ⟩ := new2 hW
  clear hW
  replace E := Lib.hid (Ext.trans E.out hb)
  replace HQ := Lib.hid (HQ.out.ext hb)
  clear hb
  have D := Lib.hid hD
  have lD := D.out.lt
  clear hD
  have Z := Lib.hid hZ
  have lZ := Z.out.lt
  clear hZ
  have d0 := D.out.cell_of (i := 0) rfl
  have d1 := D.out.cell_of (i := 1) rfl
  have d2 := D.out.cell_of (i := 2) rfl
  go_wp2_with fail
  clear d0 d1 d2
  refine (c_validDeque _ top [] _ HQ.out).mono ?_
  rintro e w1 ⟨rfl, hb⟩
  replace E := Lib.hid (Ext.trans E.out hb)
  replace HQ := Lib.hid (HQ.out.ext hb)
  replace D := Lib.hid (D.out.ext hb)
  have lD := D.out.lt
  replace Z := Lib.hid (Z.out.ext hb)
  have lZ := Z.out.lt
  clear hb
  have d0 := D.out.cell_of (i := 0) rfl
  have d1 := D.out.cell_of (i := 1) rfl
  have d2 := D.out.cell_of (i := 2) rfl
  clear d0 d1 d2
  have d0 := D.out.cell_of (i := 0) rfl
  have d1 := D.out.cell_of (i := 1) rfl
  have d2 := D.out.cell_of (i := 2) rfl
  have z0 := Z.out.cell_of (i := 0) rfl
  have zz0 := Z.out.frozen 0
  have z1 := Z.out.cell_of (i := 1) rfl
  have zz1 := Z.out.frozen 1
  have z2 := Z.out.cell_of (i := 2) rfl
  have zz2 := Z.out.frozen 2
  go_wp2_with fail
  exact bodyPost_ret (v := .tuple #[.agg #[.slice none 0 0, .int .i64 0, .int .i64 0], .int .i64 (-1), .bool false]) (by simp [results, Try.results49, go_sem, z0, z1, z2]) rfl ⟨rfl, ((E.out.setCell (by simp) _).setCell (by simp) _).setCell (by simp) _⟩
set_option maxRecDepth 100000 in
set_option maxHeartbeats 2000000 in
theorem c_PopTile (d : Dq) (top : Nat) (xs : List Int) (w : World) (h : DqAt w d top xs) (h0 : 0 < xs.length) :
    Calls Try.prog 49 #[dqV d] w fun e w' => ∃ d', e = .returned (.tuple #[dqV d', .int .i64 (xs.getLastD 0), .bool true]) ∧ DqAt w' d' top xs.dropLast ∧ Below w.heap.size w w' := by
  have HQ := Lib.hid h
  obtain ⟨A, c, t, b⟩ := d
  obtain ⟨rfl, rfl, hle, hI, hs, hb⟩ := h.parts
  clear h
  have hl16 := slotsL_len hle
  have Hp := Lib.hid (slotsL_pop hle h0)
  have Hb : Hid (∀ y ∈ xs.dropLast, 0 ≤ y ∧ y ≤ 99) := Lib.hid (fun y hy => hb y ((List.dropLast_sublist xs).subset hy))
  try dsimp only at hI
  try dsimp only
  obtain ⟨pn, hpn⟩ : ∃ pn, top + xs.length = pn + 1 := ⟨top + xs.length - 1, by omega⟩
  obtain ⟨bi, hbi⟩ : ∃ bi, bi = ((top + xs.length : Nat) : Int) := ⟨_, rfl⟩
  rw [← hbi] at HQ
  try rw [← hbi]
  have hat := slotsL_at hle pn (by omega)
  rw [dif_pos (by omega)] at hat
  have hout : xs[pn - top]'(by omega) = (xs.getLastD 0) := by
    have h1 : xs[pn - top]? = xs[xs.length - 1]? := by rw [show pn - top = xs.length - 1 by omega]
    rw [List.getElem?_eq_getElem (by omega)] at h1
    rw [List.getLastD_eq_getLast?, List.getLast?_eq_getElem?, ← h1]; rfl
  rw [hout] at hat
  obtain ⟨bq, off, rfl, hbq, hc⟩ := hI.ints (by omega)
  have cs := hc pn (by omega)
  rw [hat] at cs
  clear hat hout hc
  have KW := Lib.hid (fun W hW => c_withSlot (some ⟨bq, off, none⟩) c (slotsL top xs) pn (-1) W hW hl16 (by omega))
  have Hpp : Hid ((slotsL top xs).set pn (-1) = slotsL top xs.dropLast) := Lib.hid (by rw [← Hp.out, show top + xs.length - 1 = pn by omega])
  rw [Hpp.out] at KW
  have Hpn : Hid (top + xs.length = pn + 1) := Lib.hid hpn
  have hne : ((top : Int) == bi) = false := by simp; omega
  have hne2 : ¬ (top : Int) = bi := by omega
  have hb1 : bi - 1 = (pn : Int) := by omega
  have hm : Int.tmod ((pn : Nat) : Int) 16 = ((pn : Nat) : Int) := by have := tmod_nat pn 16; rw [Nat.mod_eq_of_lt (by omega)] at this; exact this
  have hwr : IntKind.i64.wrap (bi - 1) = bi - 1 := IntWalk.i64_in _ (by omega)
  have hk0 : (0 : Int) ≤ ((pn : Nat) : Int) := by omega
  have hk1 : ((pn : Nat) : Int) < 16 := by omega
  have Hbi := Lib.hid hbi
  have H0 := Lib.hid h0
  have Hle := Lib.hid hle
  obtain ⟨s, hs'⟩ : ∃ s, s = (xs.getLastD 0) := ⟨_, rfl⟩
  rw [← hs'] at cs ⊢
  clear hs' hs hb hle hbi hl16 Hp Hpp hpn h0
  have H := Lib.hid hI
  have Cs := Lib.hid cs
  have E := Lib.hid (Below.refl w.heap.size w)
  clear hI cs
  go_enter Try.func49, Try.ntmps49
  go_wp2_with fail
  first | refine gen_calls ?_ | refine gen_code ?_ | refine gen_list ?_
  intro w0 hW
  obtain ⟨hb, hD, hZ⟩ := new2 hW
  clear hW
  replace E := Lib.hid (Ext.trans E.out hb)
  replace H := Lib.hid (H.out.ext intR_stab hb)
  replace HQ := Lib.hid (HQ.out.ext hb)
  replace Cs := Lib.hid (Cls.cell hb Cs.out)
  clear hb
  have D := Lib.hid hD
  have lD := D.out.lt
  clear hD
  have Z := Lib.hid hZ
  have lZ := Z.out.lt
  clear hZ
  have d0 := D.out.cell_of (i := 0) rfl
  have d1 := D.out.cell_of (i := 1) rfl
  have d2 := D.out.cell_of (i := 2) rfl
  go_wp2_with fail
  clear d0 d1 d2
  refine (c_validDeque _ top xs _ HQ.out).mono ?_
  rintro e w1 ⟨rfl, hb⟩
  replace E := Lib.hid (Ext.trans E.out hb)
  replace H := Lib.hid (H.out.ext intR_stab hb)
  replace HQ := Lib.hid (HQ.out.ext hb)
  replace Cs := Lib.hid (Cls.cell hb Cs.out)
  replace D := Lib.hid (D.out.ext hb)
  have lD := D.out.lt
  replace Z := Lib.hid (Z.out.ext hb)
  have lZ := Z.out.lt
  clear hb
  have d0 := D.out.cell_of (i := 0) rfl
  have d1 := D.out.cell_of (i := 1) rfl
  have d2 := D.out.cell_of (i := 2) rfl
  clear d0 d1 d2
  have d0 := D.out.cell_of (i := 0) rfl
  have d1 := D.out.cell_of (i := 1) rfl
  have d2 := D.out.cell_of (i := 2) rfl
  have z0 := Z.out.cell_of (i := 0) rfl
  have zz0 := Z.out.frozen 0
  have z1 := Z.out.cell_of (i := 1) rfl
  have zz1 := Z.out.frozen 1
  have z2 := Z.out.cell_of (i := 2) rfl
  have zz2 := Z.out.frozen 2
  go_wp2_with fail
  have cs := Cs.out
  refine RegG.wp_region_calm (fun i => i = w.heap.size + 1) [0,1,2,4,5,6,8,9,10,11,12,13] [3,7,14,15,16] (by kernel_rfl) (by kernel_rfl) ?_
  iterate 12 ((refine RegG.calm_yes rfl rfl (fun w' hC => (by have d0 := hC.cell d0 (by simp); have d1 := hC.cell d1 (by simp); have d2 := hC.cell d2 (by simp); have cs := hC.cell cs (by simp; omega); go_simp; rfl)) (fun K hK => ?_); go_simp; refine hK _ ?_; clear hK K))
  refine RegG.calm_nil (fun wa hxa => ?_)
  refine RegG.late_keep rfl rfl ((RegG.Cls.refl _).ext hxa) (fun wb hxb hCb K hK => ?_)
  have hXb : Ext w1 wb := Ext.trans (ext_cls hxa) hxb
  go_simp
  refine (KW.out wb (H.out.ext intR_stab hXb)).mono ?_
  rintro e wd ⟨A1, cap1, rfl, ho1, hb1⟩
  refine hK _ _ (hCb.ext hb1) (fun hCd => ?_)
  clear hK K
  have Q1 : Hid (DqAt wd (A1, cap1, (top : Int), (pn : Int)) top xs.dropLast) := Lib.hid ⟨rfl, by have := Hpn.out; have := H0.out; simp; omega, by have := Hle.out; have := H0.out; simp; omega, ho1.rebase (Nat.zero_le _), Hb.out⟩
  have hge := has_ge ho1
  have hwb := hXb.size
  refine RegG.late_keep rfl rfl hCd (fun we hxe hCe K hK => ?_)
  go_simp
  refine hK _ _ hCe (fun _ => ?_)
  clear hK K
  have E1 := Lib.hid (Ext.trans (Ext.trans (Ext.trans E.out hXb) hb1) hxe)
  replace Q1 := Lib.hid (Q1.out.ext hxe)
  replace Z := Lib.hid (((Z.out.ext hXb).ext hb1).ext hxe)
  clear hxe hCd hCb hxa hxb hXb hb1 ho1
  clear d0 d1 d2 z0 zz0 z1 zz1 z2 zz2
  refine RegG.late_keep rfl rfl hCe (fun wf hxf hCf K hK => ?_)
  replace E1 := Lib.hid (Ext.trans E1.out hxf)
  replace Q1 := Lib.hid (Q1.out.ext hxf)
  replace Z := Lib.hid (Z.out.ext hxf)
  clear hxf
  have z0 := Z.out.cell_of (i := 0) rfl
  have zz0 := Z.out.frozen 0
  have z1 := Z.out.cell_of (i := 1) rfl
  have zz1 := Z.out.frozen 1
  have z2 := Z.out.cell_of (i := 2) rfl
  have zz2 := Z.out.frozen 2
  go_simp
  refine hK _ _ (((hCf.set (p := ⟨w.heap.size + 1, 0, none⟩) rfl _).set (p := ⟨w.heap.size + 1, 1, none⟩) rfl _).set (p := ⟨w.heap.size + 1, 2, none⟩) rfl _) (fun hCg => ?_)
  clear hK K hwr hCe hCf hCg
  clear z0 zz0 z1 zz1 z2 zz2
  refine RegG.late_free (by kernel_rfl) rfl rfl (fun wg hxg K hK => ?_)
  have hz1 := E1.out.size
  replace Z := Lib.hid ((((Z.out.set_ 0 _).set_ 1 _).set_ 2 _).ext hxg)
  replace Q1 := Lib.hid (((((Q1.out.far (g := w.heap.size + 1) (i := 0) (fun b off hA => by have := hge b off hA; omega) _).far (g := w.heap.size + 1) (i := 1) (fun b off hA => by have := hge b off hA; omega) _).far (g := w.heap.size + 1) (i := 2) (fun b off hA => by have := hge b off hA; omega) _)).ext hxg)
  replace E1 := Lib.hid (Ext.trans (((E1.out.setCell (p := ⟨w.heap.size + 1, 0, none⟩) (by simp) _).setCell (p := ⟨w.heap.size + 1, 1, none⟩) (by simp) _).setCell (p := ⟨w.heap.size + 1, 2, none⟩) (by simp) _) hxg)
  clear hxg
  go_simp
  refine hK _ _ ?_
  clear hK K
  refine RegG.late_free (by kernel_rfl) rfl rfl (fun wi hxi K hK => ?_)
  go_simp
  refine hK _ _ ?_
  clear hK K
  refine RegG.late_nil (fun wh hxh' => ?_)
  have hxh := Ext.trans hxi hxh'
  replace Z := Lib.hid (Z.out.ext hxh)
  replace Q1 := Lib.hid (Q1.out.ext hxh)
  replace E1 := Lib.hid (Ext.trans E1.out hxh)
  clear hxh hxh' hxi
  have z0 := Z.out.cell_of (i := 0) rfl
  have z1 := Z.out.cell_of (i := 1) rfl
  have z2 := Z.out.cell_of (i := 2) rfl
  go_wp2_with fail
  exact bodyPost_ret (v := .tuple #[dqV (A1, cap1, (top : Int), (pn : Int)), .int .i64 s, .bool true]) (by simp [results, Try.results49, go_sem, z0, z1, z2]) rfl ⟨_, rfl, Q1.out, E1.out⟩
set_option maxRecDepth 100000 in
set_option maxHeartbeats 2000000 in
theorem c_StealTile0 (d : Dq) (w : World) (h : DqIs w d []) :
    Calls Try.prog 50 #[dqV d] w fun e w' => e = .returned (.tuple #[.agg #[.slice none 0 0, .int .i64 0, .int .i64 0], .int .i64 (-1), .bool false]) ∧ Below w.heap.size w w' := by
  obtain ⟨top, h⟩ := h
  have HQ := Lib.hid h
  obtain ⟨A, c, t, b⟩ := d
  obtain ⟨rfl, rfl, hle, hI, hs, hb⟩ := h.parts
  clear h
  try dsimp only
  have e : ((top + ([] : List Int).length : Nat) : Int) = (top : Int) := by simp
  rw [e] at HQ
  try rw [e]
  clear hI hs hb hle e
  have E := Lib.hid (Below.refl w.heap.size w)
  go_enter Try.func50, Try.ntmps50
  go_wp2_with fail
  first | refine gen_calls ?_ | refine gen_code ?_ | refine gen_list ?_
  intro w0 hW
  obtain ⟨hb, hD, hZ⟩ := new2 hW
  clear hW
  replace E := Lib.hid (Ext.trans E.out hb)
  replace HQ := Lib.hid (HQ.out.ext hb)
  clear hb
  have D := Lib.hid hD
  have lD := D.out.lt
  clear hD
  have Z := Lib.hid hZ
  have lZ := Z.out.lt
  clear hZ
  have d0 := D.out.cell_of (i := 0) rfl
  have d1 := D.out.cell_of (i := 1) rfl
  have d2 := D.out.cell_of (i := 2) rfl
  go_wp2_with fail
  clear d0 d1 d2
  refine (c_validDeque _ top [] _ HQ.out).mono ?_
  rintro e w1 ⟨rfl, hb⟩
  replace E := Lib.hid (Ext.trans E.out hb)
  replace HQ := Lib.hid (HQ.out.ext hb)
  replace D := Lib.hid (D.out.ext hb)
  have lD := D.out.lt
  replace Z := Lib.hid (Z.out.ext hb)
  have lZ := Z.out.lt
  clear hb
  have d0 := D.out.cell_of (i := 0) rfl
  have d1 := D.out.cell_of (i := 1) rfl
  have d2 := D.out.cell_of (i := 2) rfl
  clear d0 d1 d2
  have d0 := D.out.cell_of (i := 0) rfl
  have d1 := D.out.cell_of (i := 1) rfl
  have d2 := D.out.cell_of (i := 2) rfl
  have z0 := Z.out.cell_of (i := 0) rfl
  have zz0 := Z.out.frozen 0
  have z1 := Z.out.cell_of (i := 1) rfl
  have zz1 := Z.out.frozen 1
  have z2 := Z.out.cell_of (i := 2) rfl
  have zz2 := Z.out.frozen 2
  go_wp2_with fail
  exact bodyPost_ret (v := .tuple #[.agg #[.slice none 0 0, .int .i64 0, .int .i64 0], .int .i64 (-1), .bool false]) (by simp [results, Try.results50, go_sem, z0, z1, z2]) rfl ⟨rfl, ((E.out.setCell (by simp) _).setCell (by simp) _).setCell (by simp) _⟩
set_option maxRecDepth 100000 in
set_option maxHeartbeats 2000000 in
theorem c_StealTile (d : Dq) (top : Nat) (xs : List Int) (w : World) (h : DqAt w d top xs) (h0 : 0 < xs.length) :
    Calls Try.prog 50 #[dqV d] w fun e w' => ∃ d', e = .returned (.tuple #[dqV d', .int .i64 (xs.headD 0), .bool true]) ∧ DqAt w' d' (top + 1) (xs.drop 1) ∧ Below w.heap.size w w' := by
  have HQ := Lib.hid h
  obtain ⟨A, c, t, b⟩ := d
  obtain ⟨rfl, rfl, hle, hI, hs, hb⟩ := h.parts
  clear h
  have hl16 := slotsL_len hle
  have Hp := Lib.hid (slotsL_steal hle h0)
  have Hb : Hid (∀ y ∈ (xs.drop 1), 0 ≤ y ∧ y ≤ 99) := Lib.hid (fun y hy => hb y (List.mem_of_mem_drop hy))
  try dsimp only at hI
  try dsimp only
  obtain ⟨pn, hpn⟩ : ∃ pn, top + xs.length = pn + 1 := ⟨top + xs.length - 1, by omega⟩
  obtain ⟨bi, hbi⟩ : ∃ bi, bi = ((top + xs.length : Nat) : Int) := ⟨_, rfl⟩
  rw [← hbi] at HQ
  try rw [← hbi]
  have hat := slotsL_at hle top (by omega)
  rw [dif_pos (by omega)] at hat
  have hout : xs[top - top]'(by omega) = (xs.headD 0) := by
    have : xs ≠ [] := by intro hh; subst hh; simp at h0
    match xs, h0 with
    | y :: ys, _ => simp
  rw [hout] at hat
  obtain ⟨bq, off, rfl, hbq, hc⟩ := hI.ints (by omega)
  have cs := hc top (by omega)
  rw [hat] at cs
  clear hat hout hc
  have KW := Lib.hid (fun W hW => c_withSlot (some ⟨bq, off, none⟩) c (slotsL top xs) top (-1) W hW hl16 (by omega))
  have Hpp : Hid ((slotsL top xs).set top (-1) = slotsL (top + 1) (xs.drop 1)) := Lib.hid (Hp.out)
  rw [Hpp.out] at KW
  have Hpn : Hid (top + xs.length = pn + 1) := Lib.hid hpn
  have hne : ((top : Int) == bi) = false := by simp; omega
  have hne2 : ¬ (top : Int) = bi := by omega
  have hb1 : bi - 1 = (pn : Int) := by omega
  have hm : Int.tmod ((top : Nat) : Int) 16 = ((top : Nat) : Int) := by have := tmod_nat top 16; rw [Nat.mod_eq_of_lt (by omega)] at this; exact this
  have hwr : IntKind.i64.wrap ((top : Int) + 1) = (top : Int) + 1 := IntWalk.i64_in _ (by omega)
  have hk0 : (0 : Int) ≤ ((top : Nat) : Int) := by omega
  have hk1 : ((top : Nat) : Int) < 16 := by omega
  have Hbi := Lib.hid hbi
  have H0 := Lib.hid h0
  have Hle := Lib.hid hle
  obtain ⟨s, hs'⟩ : ∃ s, s = (xs.headD 0) := ⟨_, rfl⟩
  rw [← hs'] at cs ⊢
  clear hs' hs hb hle hbi hl16 Hp Hpp hpn h0
  have H := Lib.hid hI
  have Cs := Lib.hid cs
  have E := Lib.hid (Below.refl w.heap.size w)
  clear hI cs
  go_enter Try.func50, Try.ntmps50
  go_wp2_with fail
  first | refine gen_calls ?_ | refine gen_code ?_ | refine gen_list ?_
  intro w0 hW
  obtain ⟨hb, hD, hZ⟩ := new2 hW
  clear hW
  replace E := Lib.hid (Ext.trans E.out hb)
  replace H := Lib.hid (H.out.ext intR_stab hb)
  replace HQ := Lib.hid (HQ.out.ext hb)
  replace Cs := Lib.hid (Cls.cell hb Cs.out)
  clear hb
  have D := Lib.hid hD
  have lD := D.out.lt
  clear hD
  have Z := Lib.hid hZ
  have lZ := Z.out.lt
  clear hZ
  have d0 := D.out.cell_of (i := 0) rfl
  have d1 := D.out.cell_of (i := 1) rfl
  have d2 := D.out.cell_of (i := 2) rfl
  go_wp2_with fail
  clear d0 d1 d2
  refine (c_validDeque _ top xs _ HQ.out).mono ?_
  rintro e w1 ⟨rfl, hb⟩
  replace E := Lib.hid (Ext.trans E.out hb)
  replace H := Lib.hid (H.out.ext intR_stab hb)
  replace HQ := Lib.hid (HQ.out.ext hb)
  replace Cs := Lib.hid (Cls.cell hb Cs.out)
  replace D := Lib.hid (D.out.ext hb)
  have lD := D.out.lt
  replace Z := Lib.hid (Z.out.ext hb)
  have lZ := Z.out.lt
  clear hb
  have d0 := D.out.cell_of (i := 0) rfl
  have d1 := D.out.cell_of (i := 1) rfl
  have d2 := D.out.cell_of (i := 2) rfl
  clear d0 d1 d2
  have d0 := D.out.cell_of (i := 0) rfl
  have d1 := D.out.cell_of (i := 1) rfl
  have d2 := D.out.cell_of (i := 2) rfl
  have z0 := Z.out.cell_of (i := 0) rfl
  have zz0 := Z.out.frozen 0
  have z1 := Z.out.cell_of (i := 1) rfl
  have zz1 := Z.out.frozen 1
  have z2 := Z.out.cell_of (i := 2) rfl
  have zz2 := Z.out.frozen 2
  go_wp2_with fail
  have cs := Cs.out
  refine RegG.wp_region_calm (fun i => i = w.heap.size + 1) [0,1,2,3,5,6,7,8,9,11,12,13,14,15,16,17] [4,10,18,19,20] (by kernel_rfl) (by kernel_rfl) ?_
  iterate 16 ((refine RegG.calm_yes rfl rfl (fun w' hC => (by have d0 := hC.cell d0 (by simp); have d1 := hC.cell d1 (by simp); have d2 := hC.cell d2 (by simp); have cs := hC.cell cs (by simp; omega); go_simp; rfl)) (fun K hK => ?_); go_simp; refine hK _ ?_; clear hK K))
  refine RegG.calm_nil (fun wa hxa => ?_)
  refine RegG.late_keep rfl rfl ((RegG.Cls.refl _).ext hxa) (fun wb hxb hCb K hK => ?_)
  have hXb : Ext w1 wb := Ext.trans (ext_cls hxa) hxb
  go_simp
  refine (KW.out wb (H.out.ext intR_stab hXb)).mono ?_
  rintro e wd ⟨A1, cap1, rfl, ho1, hb1⟩
  refine hK _ _ (hCb.ext hb1) (fun hCd => ?_)
  clear hK K
  have Q1 : Hid (DqAt wd (A1, cap1, (top : Int) + 1, bi) (top + 1) (xs.drop 1)) := Lib.hid ⟨by push_cast; rfl, by
    have h1 := H0.out
    have h2 : (xs.drop 1).length = xs.length - 1 := by simp
    rw [h2]; have h3 := Hbi.out; dsimp only; omega, by have := Hle.out; have := H0.out; simp; omega, ho1.rebase (Nat.zero_le _), Hb.out⟩
  have hge := has_ge ho1
  have hwb := hXb.size
  refine RegG.late_keep rfl rfl hCd (fun we hxe hCe K hK => ?_)
  go_simp
  refine hK _ _ hCe (fun _ => ?_)
  clear hK K
  have E1 := Lib.hid (Ext.trans (Ext.trans (Ext.trans E.out hXb) hb1) hxe)
  replace Q1 := Lib.hid (Q1.out.ext hxe)
  replace Z := Lib.hid (((Z.out.ext hXb).ext hb1).ext hxe)
  clear hxe hCd hCb hxa hxb hXb hb1 ho1
  clear d0 d1 d2 z0 zz0 z1 zz1 z2 zz2
  refine RegG.late_keep rfl rfl hCe (fun wf hxf hCf K hK => ?_)
  replace E1 := Lib.hid (Ext.trans E1.out hxf)
  replace Q1 := Lib.hid (Q1.out.ext hxf)
  replace Z := Lib.hid (Z.out.ext hxf)
  clear hxf
  have z0 := Z.out.cell_of (i := 0) rfl
  have zz0 := Z.out.frozen 0
  have z1 := Z.out.cell_of (i := 1) rfl
  have zz1 := Z.out.frozen 1
  have z2 := Z.out.cell_of (i := 2) rfl
  have zz2 := Z.out.frozen 2
  go_simp
  refine hK _ _ (((hCf.set (p := ⟨w.heap.size + 1, 0, none⟩) rfl _).set (p := ⟨w.heap.size + 1, 1, none⟩) rfl _).set (p := ⟨w.heap.size + 1, 2, none⟩) rfl _) (fun hCg => ?_)
  clear hK K hwr hCe hCf hCg
  clear z0 zz0 z1 zz1 z2 zz2
  refine RegG.late_free (by kernel_rfl) rfl rfl (fun wg hxg K hK => ?_)
  have hz1 := E1.out.size
  replace Z := Lib.hid ((((Z.out.set_ 0 _).set_ 1 _).set_ 2 _).ext hxg)
  replace Q1 := Lib.hid (((((Q1.out.far (g := w.heap.size + 1) (i := 0) (fun b off hA => by have := hge b off hA; omega) _).far (g := w.heap.size + 1) (i := 1) (fun b off hA => by have := hge b off hA; omega) _).far (g := w.heap.size + 1) (i := 2) (fun b off hA => by have := hge b off hA; omega) _)).ext hxg)
  replace E1 := Lib.hid (Ext.trans (((E1.out.setCell (p := ⟨w.heap.size + 1, 0, none⟩) (by simp) _).setCell (p := ⟨w.heap.size + 1, 1, none⟩) (by simp) _).setCell (p := ⟨w.heap.size + 1, 2, none⟩) (by simp) _) hxg)
  clear hxg
  go_simp
  refine hK _ _ ?_
  clear hK K
  refine RegG.late_free (by kernel_rfl) rfl rfl (fun wi hxi K hK => ?_)
  go_simp
  refine hK _ _ ?_
  clear hK K
  refine RegG.late_nil (fun wh hxh' => ?_)
  have hxh := Ext.trans hxi hxh'
  replace Z := Lib.hid (Z.out.ext hxh)
  replace Q1 := Lib.hid (Q1.out.ext hxh)
  replace E1 := Lib.hid (Ext.trans E1.out hxh)
  clear hxh hxh' hxi
  have z0 := Z.out.cell_of (i := 0) rfl
  have z1 := Z.out.cell_of (i := 1) rfl
  have z2 := Z.out.cell_of (i := 2) rfl
  go_wp2_with fail
  exact bodyPost_ret (v := .tuple #[dqV (A1, cap1, (top : Int) + 1, bi), .int .i64 s, .bool true]) (by simp [results, Try.results50, go_sem, z0, z1, z2]) rfl ⟨_, rfl, Q1.out, E1.out⟩
end Go.Proofs.Ytnmnomhoghkdjaa
